/- The small machine: what operations keep, and drawn regions in any order. No conditions. -/
import Derived.Test.YtjoapoebeknddaaA2
set_option linter.unusedSimpArgs false
set_option linter.unusedVariables false
/- A small machine over lists in the place of the memory: what an operation leaves as it is; regions done in their order. No conditions. -/
namespace Go.Am
set_option linter.unusedSimpArgs false
set_option linter.unusedVariables false

def Keeps (n : Nat) (H H' : Heap) : Prop := H.length ≤ H'.length ∧ ∀ b, b < n → H'[b]? = H[b]?
theorem Keeps.refl (n : Nat) (H : Heap) : Keeps n H H := ⟨Nat.le_refl _, fun _ _ => rfl⟩
theorem Keeps.trans {n : Nat} {a b c : Heap} (h : Keeps n a b) (k : Keeps n b c) : Keeps n a c := ⟨Nat.le_trans h.1 k.1, fun x hx => (k.2 x hx).trans (h.2 x hx)⟩
theorem Keeps.append {n : Nat} {H : Heap} (h : n ≤ H.length) (F : Heap) : Keeps n H (H ++ F) := ⟨by simp, fun b hb => List.getElem?_append_left (by omega)⟩
theorem Keeps.set {n b : Nat} {H : Heap} (h : n ≤ b) (x : Option (TypeId × List Value)) : Keeps n H (H.set b x) := ⟨by simp, fun c hc => List.getElem?_set_ne (by omega)⟩
theorem Keeps.mono {n m : Nat} {H H' : Heap} (h : Keeps n H H') (hm : m ≤ n) : Keeps m H H' := ⟨h.1, fun b hb => h.2 b (by omega)⟩

def CallKeeps (C : Cfg) (call : Nat → CallF) : Prop :=
  ∀ (base : Nat) (g : FuncId) (args : List Value) (H : Heap) (v : Value) (H' : Heap), base ≤ H.length → call base g args H = some (v, H') → Keeps base H H' ∧ (C.wr g = false → ∃ F, H' = H ++ F)

section
variable {C : Cfg} {P : Program} {nf base : Nat} {β : Beta} {H H' : Heap} {w : World} {a : Act} {o : Oper} {v : Value} {ρ : Env} {call : Nat → CallF} {dr : Bool}

theorem valH_heap {x : Option Value} {r : Value × Heap} (h : valH H x = some r) : r.2 = H := (valH_some h).2

theorem append_keeps {t : TypeId} {s x : Value} {r : Value × Heap} (hb : base ≤ H.length) (h : appendA P base H t s x = some r) : Keeps base H r.2 := by
  unfold appendA at h
  obtain ⟨e, he, h1⟩ := Option.bind_eq_some_iff.1 h
  obtain ⟨es, hes, h2⟩ := Option.bind_eq_some_iff.1 h1
  obtain ⟨y, hy, h3⟩ := Option.bind_eq_some_iff.1 h2
  clear h h1 h2
  split at h3
  · split at h3
    · split at h3
      · cases h3; exact .refl _ _
      · split at h3
        · cases h3; exact .append hb _
        · cases h3
    · rename_i b o es' n cap
      by_cases h4 : es' ≠ es
      · rw [if_pos h4] at h3; cases h3
      rw [if_neg h4] at h3
      by_cases h5 : y.1 = 0
      · rw [if_pos h5] at h3; cases h3; exact .refl _ _
      rw [if_neg h5] at h3
      by_cases h6 : base ≤ b
      · rw [if_pos h6] at h3
        obtain ⟨c, hc, h7⟩ := Option.bind_eq_some_iff.1 h3
        clear h3
        by_cases h8 : n + y.1 ≤ cap
        · rw [if_pos h8] at h7
          by_cases h9 : o + (n + y.1) * es ≤ c.2.length
          · rw [if_pos h9] at h7; cases h7; exact .set h6 _
          · rw [if_neg h9] at h7; cases h7
        · rw [if_neg h8] at h7
          by_cases h9 : o + n * es = c.2.length ∧ n + y.1 ≤ room
          · rw [if_pos h9] at h7; cases h7
            exact (Keeps.set h6 none).trans (.append (by simpa using hb) _)
          · rw [if_neg h9] at h7; cases h7
      · rw [if_neg h6] at h3; cases h3
    · cases h3
  · cases h3
theorem copy_keeps {t : TypeId} {s x : Value} {r : Value × Heap} (h : copyA P base H t s x = some r) : Keeps base H r.2 := by
  unfold copyA at h
  obtain ⟨e, he, h1⟩ := Option.bind_eq_some_iff.1 h
  obtain ⟨es, hes, h2⟩ := Option.bind_eq_some_iff.1 h1
  obtain ⟨y, hy, h3⟩ := Option.bind_eq_some_iff.1 h2
  clear h h1 h2
  split at h3
  · cases h3; exact .refl _ _
  · split at h3
    · rename_i hq
      obtain ⟨c, hc, h7⟩ := Option.bind_eq_some_iff.1 h3
      split at h7
      · cases h7; exact .set hq.2 _
      · cases h7
    · cases h3
  · cases h3
theorem clear_keeps {t : TypeId} {s : Value} (h : clearA P base H t s = some H') : Keeps base H H' := by
  unfold clearA at h
  split at h
  · obtain ⟨e, he, rfl⟩ := Option.map_eq_some_iff.1 h; exact .refl _ _
  · obtain ⟨e, he, h1⟩ := Option.bind_eq_some_iff.1 h
    obtain ⟨z, hz, h2⟩ := Option.bind_eq_some_iff.1 h1
    clear h h1
    split at h2
    · split at h2
      · cases h2; exact .refl _ _
      · split at h2
        · rename_i hb
          obtain ⟨c, hc, h7⟩ := Option.bind_eq_some_iff.1 h2
          split at h7
          · cases h7; exact .set hb _
          · cases h7
        · cases h2
    · cases h2
  · cases h
theorem store_keeps {t : TypeId} {x p : Value} (h : storeA P base H t x p = some H') : Keeps base H H' := by
  unfold storeA at h
  split at h
  · split at h
    · rename_i hb
      obtain ⟨c, hc, h7⟩ := Option.bind_eq_some_iff.1 h
      split at h7
      · cases h7; exact .set hb _
      · cases h7
    · cases h
  · cases h

/-- What an operation leaves as it is. -/
theorem evalOp_keeps (hc : CallKeeps C call) (hb : base ≤ H.length) {r : Value × Heap} (h : evalOp C call base dr o ρ H = some r) :
    Keeps base H r.2 ∧ (dr = true → isW C o = false → ∃ F, r.2 = H ++ F) ∧ (isM C o = false → r.2 = H) := by
  have same : ∀ {r : Value × Heap}, r.2 = H → Keeps base H r.2 ∧ (dr = true → isW C o = false → ∃ F, r.2 = H ++ F) ∧ (isM C o = false → r.2 = H) := fun e => by rw [e]; exact ⟨.refl _ _, fun _ _ => ⟨[], by simp⟩, fun _ => rfl⟩
  unfold evalOp at h
  split at h
  case h_1 x ho => cases h; exact same rfl
  case h_2 x ho => cases h; exact same rfl
  case h_3 c x y ho =>
    split at h
    · cases h; exact same rfl
    · cases h
  case h_4 t ho =>
    obtain ⟨z, hz, h⟩ := Option.bind_eq_some_iff.1 h
    split at h
    · cases h; exact ⟨.append hb _, fun _ _ => ⟨_, rfl⟩, fun hm => by simp [isM, ho] at hm⟩
    · cases h
  case h_5 t x ho =>
    split at h
    · cases h; exact ⟨.append hb _, fun _ _ => ⟨_, rfl⟩, fun hm => by simp [isM, ho] at hm⟩
    · cases h
  case h_6 t parts ho => exact same (valH_heap h)
  case h_7 t len parts ho =>
    unfold buildSliceA at h
    obtain ⟨e, he, h1⟩ := Option.bind_eq_some_iff.1 h
    obtain ⟨es, hes, h2⟩ := Option.bind_eq_some_iff.1 h1
    obtain ⟨z, hz, h3⟩ := Option.bind_eq_some_iff.1 h2
    clear h h1 h2
    split at h3
    · obtain ⟨cs, _, rfl⟩ := Option.map_eq_some_iff.1 h3
      exact ⟨.append hb _, fun _ _ => ⟨_, rfl⟩, fun hm => by simp [isM, ho] at hm⟩
    · cases h3
  case h_8 t x ho => exact same (valH_heap h)
  case h_9 t p x ho =>
    obtain ⟨H1, h1, rfl⟩ := Option.map_eq_some_iff.1 h
    exact ⟨store_keeps h1, fun _ hw => by simp [isW, ho] at hw, fun hm => by simp [isM, ho] at hm⟩
  case h_10 x ho =>
    split at h
    · cases h; exact same rfl
    · cases h; exact same rfl
    · cases h
  case h_11 op t x y u ho => exact same (valH_heap h)
  case h_12 t x ho =>
    split at h
    · cases h; exact same rfl
    · cases h
  case h_13 src dst x ho =>
    unfold convA at h
    split at h
    · obtain ⟨e, he, h1⟩ := Option.bind_eq_some_iff.1 h
      clear h
      split at h1
      · obtain ⟨y, hy, h2⟩ := Option.bind_eq_some_iff.1 h1
        obtain ⟨bs, hb, rfl⟩ := Option.map_eq_some_iff.1 h2
        exact same rfl
      · cases h1
    · split at h
      · split at h
        · rename_i e he
          split at h
          · cases h; exact ⟨.append hb _, fun _ _ => ⟨_, rfl⟩, fun hm => by simp [isM, ho, he] at hm⟩
          · cases h
        · exact same (valH_heap h)
      · cases h
    · exact same (valH_heap h)
  case h_14 fn first caps ho => cases h; exact same rfl
  case h_15 t l c ho =>
    unfold makeA at h
    split at h
    · obtain ⟨e, he, h1⟩ := Option.bind_eq_some_iff.1 h
      obtain ⟨es, hes, h2⟩ := Option.bind_eq_some_iff.1 h1
      obtain ⟨z, hz, h3⟩ := Option.bind_eq_some_iff.1 h2
      clear h h1 h2
      split at h3
      · cases h3; exact ⟨.append hb _, fun _ _ => ⟨_, rfl⟩, fun hm => by simp [isM, ho] at hm⟩
      · cases h3
    · cases h
  case h_16 t x lo hi mx ho =>
    split at h
    · exact same (valH_heap h)
    · exact same (valH_heap h)
  case h_17 s x f ho => exact same (valH_heap h)
  case h_18 t x i ho => exact same (valH_heap h)
  case h_19 t x f ho => exact same (valH_heap h)
  case h_20 x i ho =>
    split at h
    · exact same (valH_heap h)
    · cases h
  case h_21 ho => exact same (valH_heap h)
  case h_22 ho => exact same (valH_heap h)
  case h_23 c ho =>
    split at h
    · rename_i b hb2
      unfold builtinA at h
      split at h
      · obtain ⟨t, ht, h1⟩ := Option.bind_eq_some_iff.1 h
        obtain ⟨u, hu, h2⟩ := Option.bind_eq_some_iff.1 h1
        clear h h1
        split at h2
        · exact ⟨append_keeps hb h2, fun _ hw => by simp [isW, ho, hb2] at hw, fun hm => by simp [isM, ho, hb2] at hm⟩
        · cases h2
      · obtain ⟨t, ht, h1⟩ := Option.bind_eq_some_iff.1 h
        exact ⟨copy_keeps h1, fun _ hw => by simp [isW, ho, hb2] at hw, fun hm => by simp [isM, ho, hb2] at hm⟩
      · obtain ⟨t, ht, h1⟩ := Option.bind_eq_some_iff.1 h
        obtain ⟨H1, h2, rfl⟩ := Option.map_eq_some_iff.1 h1
        exact ⟨clear_keeps h2, fun _ hw => by simp [isW, ho, hb2] at hw, fun hm => by simp [isM, ho, hb2] at hm⟩
      · obtain ⟨t, ht, h1⟩ := Option.bind_eq_some_iff.1 h
        split at h1
        · cases h1; exact same rfl
        · cases h1
      · exact same (valH_heap h)
    · rename_i f hf
      split at h
      · exact same (valH_heap h)
      · unfold callA at h
        split at h
        · rename_i g first caps heq
          by_cases hd : dr = true ∧ isStat f = false ∧ C.wr g = true
          · rw [if_pos hd] at h; cases h
          · rw [if_neg hd] at h
            obtain ⟨k1, k2⟩ := hc base g _ H r.1 r.2 hb h
            refine ⟨k1, fun h1 hw => k2 ?_, fun hm => by simp [isM, ho, hf] at hm⟩
            cases f with
            | func g' =>
              simp only [ev, Value.func.injEq, Fn.func.injEq] at heq
              simp only [isW, ho, hf] at hw
              rw [← heq.1]; exact hw
            | tmp t => simp only [h1, isStat, true_and, Bool.not_eq_true] at hd; simpa using hd
            | const v => simp only [h1, isStat, true_and, Bool.not_eq_true] at hd; simpa using hd
            | global g' => simp only [h1, isStat, true_and, Bool.not_eq_true] at hd; simpa using hd
        · cases h
    · cases h
  case h_24 => cases h

/-- The temporaries. -/
def ER (β : Beta) (ρ : Env) (ts : Array Value) : Prop := VRL β ρ ts.toList

theorem ER.len (h : ER β ρ a.tmps) : List.length ρ = a.tmps.size := by have := h.1; simpa using this
theorem ER.eval (h : ER β ρ a.tmps) (x : Operand) : VR β (ev ρ x) (a.eval x) := by
  cases x with
  | tmp t =>
    have := h.2 t
    simpa [ev, Act.eval, List.getD_eq_getElem?_getD, Array.getD_eq_getD_getElem?] using this
  | const v =>
    simp only [ev, Act.eval]
    split
    · rename_i hc; exact VR.of_C β hc
    · exact .any _
  | global g => exact .any _
  | func f => exact .fn rfl rfl (fun i => .any _) (fun i => .any _)
theorem ER.put (h : ER β ρ a.tmps) (d : Option Tmp) {v v' : Value} (hv : VR β v v') : ER β (putA ρ d v) (a.put d v').tmps := by
  cases d with
  | none => exact h
  | some d =>
    unfold ER putA Act.put
    simp only [Array.toList_setIfInBounds]
    refine ⟨by simpa using h.1, fun i => ?_⟩
    have h2 := h.2 i
    have h1 := h.len
    simp only [List.getD_eq_getElem?_getD, List.getElem?_set] at h2 ⊢
    by_cases hd : d = i
    · subst hd
      rw [if_pos rfl, if_pos rfl]
      by_cases hl : d < List.length ρ
      · rw [if_pos hl, if_pos (by rw [Array.length_toList, ← h1]; exact hl)]; exact hv
      · rw [if_neg hl, if_neg (by rw [Array.length_toList, ← h1]; exact hl)]; exact .any _
    · rw [if_neg hd, if_neg hd]; exact h2
theorem ER.mono {β' : Beta} (hs : Sub β β') {ts : Array Value} (h : ER β ρ ts) : ER β' ρ ts := VRL.mono hs h

theorem want_ok {ops : Array Oper} {g : Bool} (h : ER β ρ a.tmps) (hw : wantA ops o ρ = some g) : Region.wanted o (yielded ops a.tmps) = g := by
  unfold wantA at hw
  unfold Region.wanted
  split at hw
  · rename_i hg; rw [hg]; simpa using hw
  · rename_i j want hg
    rw [hg]
    split at hw
    · cases hw
    · rename_i t ht
      split at hw
      · rename_i b hb
        simp only [Option.some.injEq] at hw
        subst hw
        have h1 := h.2 t
        have hl := h.len
        have hlt : t < List.length ρ := (List.getElem?_eq_some_iff.1 hb).1
        have hlt' : t < a.tmps.size := by rw [← hl]; exact hlt
        simp only [List.getD_eq_getElem?_getD, hb, Option.getD_some, Array.getElem?_toList, Array.getElem?_eq_getElem hlt'] at h1
        have h2 := h1.of_sc rfl
        simp only [yielded, ht, Option.bind_some, Array.getElem?_eq_getElem hlt', h2]
        cases b <;> cases want <;> rfl
      · rename_i r hb
        simp only [Option.some.injEq] at hw
        subst hw
        have h1 := h.2 t
        have hl := h.len
        have hlt : t < List.length ρ := (List.getElem?_eq_some_iff.1 hb).1
        have hlt' : t < a.tmps.size := by rw [← hl]; exact hlt
        simp only [List.getD_eq_getElem?_getD, hb, Option.getD_some, Array.getElem?_toList, Array.getElem?_eq_getElem hlt'] at h1
        have h2 : a.tmps[t] = undef := by
          generalize a.tmps[t] = u at h1
          cases h1 with
          | sc h => simp [Am.sc] at h
          | skip => rfl
        simp only [yielded, ht, Option.bind_some, Array.getElem?_eq_getElem hlt', h2]
        cases want <;> rfl
      · cases hw

theorem runOps_does (hc : CallsOk C nf call) {ops : Array Oper} {Q : Exit → Act → World → Prop} (hnb : nf ≤ base) (hk : CallKeeps C call) : ∀ (l : List Oper) (is : List Nat) (ρ : Env) (H : Heap) (β : Beta) (a : Act) (w : World) (ρ' : Env) (H' : Heap),
    is.map (fun i => ops[i]?) = l.map some → Sim nf β H w → base ≤ H.length → ER β ρ a.tmps → runOps C call base dr ops l ρ H = some (ρ', H') →
    (∀ β' w' a', Post nf base β H w β' H' w' → ER β' ρ' a'.tmps → a'.defers = a.defers → Q .normal a' w') → wpOps C.P ops Q is a w := by
  intro l
  induction l with
  | nil =>
    intro is ρ H β a w ρ' H' hl hs hb he hr hq
    have : is = [] := by simpa using hl
    subst this
    simp only [runOps, Option.some.injEq, Prod.mk.injEq] at hr
    obtain ⟨rfl, rfl⟩ := hr
    exact hq β w a (.refl hs) he rfl
  | cons o l ih =>
    intro is ρ H β a w ρ' H' hl hs hb he hr hq
    cases is with
    | nil => simp at hl
    | cons i is =>
      simp only [List.map_cons, List.cons.injEq] at hl
      simp only [runOps] at hr
      obtain ⟨g, hg, hr⟩ := Option.bind_eq_some_iff.1 hr
      have hw := want_ok he hg
      simp only [wpOps, hl.1]
      cases g with
      | false =>
        rw [if_neg (by rw [hw]; decide)]
        simp only at hr
        refine ih is _ H β (a.put o.dst undef) w ρ' H' hl.2 hs hb (he.put o.dst .skip) hr fun β' w' a' h1 h2 h3 => hq β' w' a' h1 h2 (h3.trans ?_)
        cases o.dst <;> rfl
      | true =>
        rw [if_pos hw]
        simp only at hr
        obtain ⟨x, hx, hr⟩ := Option.bind_eq_some_iff.1 hr
        refine .inl (evalOp_does hc hs hnb hb (fun y _ => he.eval y) hx _ _ fun β1 w1 v1 hv hp => ?_)
        refine ih is _ x.2 β1 (a.put o.dst v1) w1 ρ' H' hl.2 hp.sim (Nat.le_trans hb (evalOp_keeps hk hb hx).1.1) ((he.mono (hp.sub hs)).put o.dst hv) hr fun β' w' a' h1 h2 h3 => hq β' w' a' (hp.trans h1) h2 (h3.trans ?_)
        cases o.dst <;> rfl
end
end Go.Am

/- A small machine over lists in the place of the memory: regions done in any order. No conditions. -/
namespace Go.Am
set_option linter.unusedSimpArgs false
set_option linter.unusedVariables false

/-! ### what stands before what -/
def one (A : Array Nat) (o : Oper) : Nat := o.after.foldl (fun s e => if Region.binds .any e then s ||| 2 ^ e.on ||| A.getD e.on 0 else s) 0
theorem one_bit (A : Array Nat) (o : Oper) (i : Nat) (h : (one A o).testBit i = true) : ∃ e ∈ o.after, Region.binds .any e = true ∧ (i = e.on ∨ (A.getD e.on 0).testBit i = true) := by
  unfold one at h
  rw [← Array.foldl_toList] at h
  have key : ∀ (l : List Edge) (s : Nat), (l.foldl (fun s e => if Region.binds .any e then s ||| 2 ^ e.on ||| A.getD e.on 0 else s) s).testBit i = true → s.testBit i = true ∨ ∃ e ∈ l, Region.binds .any e = true ∧ (i = e.on ∨ (A.getD e.on 0).testBit i = true) := by
    intro l
    induction l with
    | nil => intro s h; exact .inl h
    | cons e l ih =>
      intro s h
      simp only [List.foldl_cons] at h
      rcases ih _ h with h | ⟨e', h1, h2⟩
      · by_cases hb : Region.binds .any e = true
        · rw [if_pos hb, Nat.testBit_or, Nat.testBit_or, Bool.or_eq_true, Bool.or_eq_true] at h
          rcases h with (h | h) | h
          · exact .inl h
          · rw [Nat.testBit_two_pow] at h
            have h2 : e.on = i := by simpa using h
            exact .inr ⟨e, List.mem_cons_self, hb, .inl h2.symm⟩
          · exact .inr ⟨e, List.mem_cons_self, hb, .inr h⟩
        · rw [if_neg hb] at h; exact .inl h
      · exact .inr ⟨e', List.mem_cons_of_mem _ h1, h2⟩
  rcases key _ 0 h with h | ⟨e, h1, h2⟩
  · simp at h
  · exact ⟨e, by simpa using h1, h2⟩
theorem before_get (ops : Array Oper) : (Region.before ops).size = ops.size ∧ ∀ (j : Nat) (o : Oper), ops[j]? = some o → ∀ i : Nat, ((Region.before ops).getD j 0).testBit i = true → ∃ e ∈ o.after, Region.binds .any e = true ∧ (i = e.on ∨ (e.on < j ∧ ((Region.before ops).getD e.on 0).testBit i = true)) := by
  obtain ⟨l⟩ := ops
  have hfold : Region.before ⟨l⟩ = l.foldl (fun acc o => acc.push (one acc o)) #[] := by unfold Region.before; rw [← Array.foldl_toList]; rfl
  rw [hfold]
  have key : ∀ (l1 l2 : List Oper) (A : Array Nat), A.size = l1.length → (∀ (j : Nat) (o : Oper), l1[j]? = some o → ∀ i : Nat, (A.getD j 0).testBit i = true → ∃ e ∈ o.after, Region.binds .any e = true ∧ (i = e.on ∨ (e.on < j ∧ (A.getD e.on 0).testBit i = true))) →
      (l2.foldl (fun acc o => acc.push (one acc o)) A).size = (l1 ++ l2).length ∧ ∀ (j : Nat) (o : Oper), (l1 ++ l2)[j]? = some o → ∀ i : Nat, ((l2.foldl (fun acc o => acc.push (one acc o)) A).getD j 0).testBit i = true → ∃ e ∈ o.after, Region.binds .any e = true ∧ (i = e.on ∨ (e.on < j ∧ ((l2.foldl (fun acc o => acc.push (one acc o)) A).getD e.on 0).testBit i = true)) := by
    intro l1 l2
    induction l2 generalizing l1 with
    | nil => intro A h1 h2; simpa [h1] using h2
    | cons o l2 ih =>
      intro A h1 h2
      have := ih (l1 ++ [o]) (A.push (one A o)) (by simp [h1]) (by
        intro j o' hj i hi
        have hget : ∀ k, k < A.size → (A.push (one A o)).getD k 0 = A.getD k 0 := fun k hk => by simp [Array.getD_eq_getD_getElem?, Array.getElem?_push, Nat.ne_of_lt hk]
        by_cases hjl : j < l1.length
        · rw [List.getElem?_append_left hjl] at hj
          rw [hget j (by omega)] at hi
          obtain ⟨e, e1, e2, e3⟩ := h2 j o' hj i hi
          exact ⟨e, e1, e2, e3.imp id fun ⟨k1, k2⟩ => ⟨k1, by rw [hget _ (by omega)]; exact k2⟩⟩
        · have hj2 : j = l1.length := by
            have := (List.getElem?_eq_some_iff.1 hj).1
            simp at this; omega
          subst hj2
          simp at hj
          subst hj
          rw [← h1] at hi ⊢
          simp [Array.getD_eq_getD_getElem?] at hi
          obtain ⟨e, e1, e2, e3⟩ := one_bit A o i hi
          refine ⟨e, e1, e2, e3.imp id fun hk => ?_⟩
          have hlt : e.on < A.size := by
            rcases Nat.lt_or_ge e.on A.size with h | h
            · exact h
            · simp [Array.getD_eq_getD_getElem?, Array.getElem?_eq_none h] at hk
          exact ⟨hlt, by rw [hget _ hlt]; exact hk⟩)
      simpa using this
  have := key [] l #[] rfl (by simp)
  simpa using this
/-- What is listed with all that it hangs on is listed with all that stands before it. -/
theorem before_closed {ops : Array Oper} {S : Nat → Bool} (hc : ∀ (j : Nat) (o : Oper), ops[j]? = some o → S j = true → ∀ e ∈ o.after, Region.binds .any e = true → S e.on = true) :
    ∀ (j : Nat), j < ops.size → S j = true → ∀ i : Nat, ((Region.before ops).getD j 0).testBit i = true → S i = true := by
  intro j
  induction j using Nat.strongRecOn with
  | _ j ih =>
    intro hj hS i hi
    obtain ⟨e, e1, e2, e3⟩ := (before_get ops).2 j ops[j] (by simp [hj]) i hi
    have := hc j ops[j] (by simp [hj]) hS e e1 e2
    rcases e3 with rfl | ⟨k1, k2⟩
    · exact this
    · exact ih e.on k1 (by omega) this i k2
theorem before_ready {ops : Array Oper} {S : Nat → Bool} (hc : ∀ (j : Nat) (o : Oper), ops[j]? = some o → S j = true → ∀ e ∈ o.after, Region.binds .any e = true → S e.on = true)
    {j : Nat} {o : Oper} (ho : ops[j]? = some o) (hr : ∀ e ∈ o.after, Region.binds .any e = true → S e.on = true) (i : Nat) (hi : ((Region.before ops).getD j 0).testBit i = true) : S i = true := by
  obtain ⟨e, e1, e2, e3⟩ := (before_get ops).2 j o ho i hi
  rcases e3 with rfl | ⟨k1, k2⟩
  · exact hr e e1 e2
  · exact before_closed hc e.on (by have := (Array.getElem?_eq_some_iff.1 ho).1; omega) (hr e e1 e2) i k2

/-! ### parts of a memory -/
def restr (k : Nat) (β : Beta) : Beta := fun b => if b < k then β b else none
theorem restr_sub (k : Nat) (β : Beta) : Sub (restr k β) β := fun b x h => by unfold restr at h; split at h <;> simp_all
theorem restr_mono {k m : Nat} (h : k ≤ m) (β : Beta) : Sub (restr k β) (restr m β) := fun b x hx => by
  unfold restr at hx ⊢; split at hx
  · rw [if_pos (by omega)]; exact hx
  · cases hx
theorem restr_sub2 {β β' : Beta} (h : Sub β β') (k : Nat) : Sub (restr k β) (restr k β') := fun b x hx => by
  unfold restr at hx ⊢; split at hx
  · rename_i hb; rw [if_pos hb]; exact h b x hx
  · cases hx
theorem restr_self {nf : Nat} {β : Beta} {H : Heap} {w : World} (hs : Sim nf β H w) : Sub β (restr H.length β) := fun b x hx => by
  unfold restr; rw [if_pos (hs.dom b x hx)]; exact hx
theorem get_left {H F : Heap} {b : Nat} (h : b < H.length) : (H ++ F)[b]? = H[b]? := List.getElem?_append_left h
theorem live_left {H F : Heap} {b : Nat} (h : live H b) : live (H ++ F) b := by
  obtain ⟨T, cs, hh⟩ := h
  exact ⟨T, cs, by rw [get_left (List.getElem?_eq_some_iff.1 hh).1]; exact hh⟩
theorem live_of_left {H F : Heap} {b : Nat} (hb : b < H.length) (h : live (H ++ F) b) : live H b := by
  obtain ⟨T, cs, hh⟩ := h
  exact ⟨T, cs, by rwa [get_left hb] at hh⟩

section
variable {C : Cfg} {nf base : Nat} {β β0 β' : Beta} {H H0 H' : Heap} {w w0 w' : World} {a : Act} {o : Oper} {v : Value} {ρ : Env} {call : Nat → CallF} {dr : Bool}

theorem Sim.extend (hs : Sim nf β H w) (F : Heap) : Sim nf β (H ++ F) w := by
  have hd := hs.dom
  refine ⟨fun b x h => by have := hd b x h; simp; omega, fun b B s N h1 h2 => hs.lt b B s N (live_of_left (hd _ _ h2) h1) h2, fun b T cs B s N h1 h2 i hi => hs.cell b T cs B s N (by rwa [get_left (hd _ _ h2)] at h1) h2 i hi,
    fun b T cs B s N h0 h1 h2 => hs.own b T cs B s N h0 (by rwa [get_left (hd _ _ h2)] at h1) h2, fun b b' B s N s' N' h0 h1 h1' h2 h2' => hs.inj b b' B s N s' N' h0 (live_of_left (hd _ _ h2) h1) (live_of_left (hd _ _ h2') h1') h2 h2'⟩
theorem Sim.congr {β' : Beta} (hs : Sim nf β H w) (h : ∀ b, β' b = β b) : Sim nf β' H w := by rw [show β' = β from funext h]; exact hs
theorem restr_ge {k : Nat} (hs : Sim nf β H w) (hk : H.length ≤ k) (b : Nat) : restr k β b = β b := by
  unfold restr
  split
  · rfl
  · cases hb : β b with
    | none => rfl
    | some x => have := hs.dom b x hb; omega
/-- Nothing that was there has turned. -/
theorem Sim.still (hs : Sim nf β H w) (hz : w.heap.size ≤ w'.heap.size) (hf : ∀ B, B < w.heap.size → w'.heap[B]? = w.heap[B]?) : Sim nf β H w' := by
  refine ⟨hs.dom, fun b B s N h1 h2 => Nat.lt_of_lt_of_le (hs.lt b B s N h1 h2) hz, fun b T cs B s N h1 h2 i hi => ?_, fun b T cs B s N h0 h1 h2 => ?_, hs.inj⟩
  · obtain ⟨k1, u, k2, k3⟩ := hs.cell b T cs B s N h1 h2 i hi
    exact ⟨k1, u, (World.cell?_of_block (w := w) (hf B (hs.lt b B s N ⟨_, _, h1⟩ h2))).trans k2, k3⟩
  · obtain ⟨k1, k2⟩ := hs.own b T cs B s N h0 h1 h2
    have := hf B (hs.lt b B s N ⟨_, _, h1⟩ h2)
    exact ⟨k1, fun off ho => by rw [World.cell?_of_block (w := w) (a := ⟨B, off, none⟩) this, World.frozen?_of_block (w := w) (a := ⟨B, off, none⟩) this]; exact k2 off ho⟩

def merge (k : Nat) (β' β : Beta) : Beta := fun b => if b < k then β' b else β b
theorem Sim.merge {Hi F1 F2 : Heap} {β1 : Beta} (hs : Sim nf β1 (Hi ++ F1 ++ F2) w) (hs' : Sim nf β' (Hi ++ F1) w') (hold : ∀ b, b < Hi.length → β' b = β1 b) (hnone : ∀ b, Hi.length ≤ b → b < (Hi ++ F1).length → β1 b = none)
    (hz : w.heap.size ≤ w'.heap.size) (hf : ∀ B, B < w.heap.size → w'.heap[B]? = w.heap[B]?) (hnew : ∀ b B s N, Hi.length ≤ b → live (Hi ++ F1) b → β' b = some (B, s, N) → w.heap.size ≤ B) : Sim nf (merge (Hi ++ F1).length β' β1) (Hi ++ F1 ++ F2) w' := by
  have hsub1 : Sub β' (Am.merge (Hi ++ F1).length β' β1) := fun b x h => by unfold Am.merge; rw [if_pos (hs'.dom b x h)]; exact h
  have hsub2 : Sub β1 (Am.merge (Hi ++ F1).length β' β1) := fun b x h => by
    unfold Am.merge
    split
    · rename_i hb
      by_cases hb2 : b < Hi.length
      · rw [hold b hb2]; exact h
      · rw [hnone b (by omega) hb] at h; cases h
    · exact h
  have hc : ∀ b x, Am.merge (Hi ++ F1).length β' β1 b = some x → (b < (Hi ++ F1).length ∧ β' b = some x) ∨ (¬ b < (Hi ++ F1).length ∧ β1 b = some x) := by
    intro b x h
    unfold Am.merge at h
    split at h
    · exact .inl ⟨‹_›, h⟩
    · exact .inr ⟨‹_›, h⟩
  refine ⟨fun b x h => ?_, fun b B s N h1 h2 => ?_, fun b T cs B s N h1 h2 i hi => ?_, fun b T cs B s N h0 h1 h2 => ?_, fun b b' B s N s' N' h0 h1 h1' h2 h2' => ?_⟩
  · rcases hc b x h with ⟨h1, _⟩ | ⟨_, h2⟩
    · rw [List.length_append]; omega
    · exact hs.dom b x h2
  · rcases hc b _ h2 with ⟨h3, h4⟩ | ⟨_, h4⟩
    · exact hs'.lt b B s N (live_of_left h3 h1) h4
    · exact Nat.lt_of_lt_of_le (hs.lt b B s N h1 h4) hz
  · rcases hc b _ h2 with ⟨h3, h4⟩ | ⟨_, h4⟩
    · obtain ⟨k1, u, k2, k3⟩ := hs'.cell b T cs B s N (by rwa [get_left h3] at h1) h4 i hi
      exact ⟨k1, u, k2, k3.mono hsub1⟩
    · obtain ⟨k1, u, k2, k3⟩ := hs.cell b T cs B s N h1 h4 i hi
      exact ⟨k1, u, (World.cell?_of_block (w := w) (hf B (hs.lt b B s N ⟨_, _, h1⟩ h4))).trans k2, k3.mono hsub2⟩
  · rcases hc b _ h2 with ⟨h3, h4⟩ | ⟨_, h4⟩
    · exact hs'.own b T cs B s N h0 (by rwa [get_left h3] at h1) h4
    · obtain ⟨k1, k2⟩ := hs.own b T cs B s N h0 h1 h4
      have := hf B (hs.lt b B s N ⟨_, _, h1⟩ h4)
      exact ⟨k1, fun off ho => by rw [World.cell?_of_block (w := w) (a := ⟨B, off, none⟩) this, World.frozen?_of_block (w := w) (a := ⟨B, off, none⟩) this]; exact k2 off ho⟩
  · have mix : ∀ b b' s N s' N', b < (Hi ++ F1).length → ¬ b' < (Hi ++ F1).length → live (Hi ++ F1 ++ F2) b → live (Hi ++ F1 ++ F2) b' → β' b = some (B, s, N) → β1 b' = some (B, s', N') → nf ≤ b ∨ nf ≤ b' → b = b' := by
      intro b b' s N s' N' hb hb' hl hl' h4 h4' hnf
      have hlt := hs.lt b' B s' N' hl' h4'
      by_cases hb2 : b < Hi.length
      · rw [hold b hb2] at h4
        rcases hnf with hnf | hnf
        · exact hs.inj b b' B s N s' N' hnf hl hl' h4 h4'
        · exact (hs.inj b' b B s' N' s N hnf hl' hl h4' h4).symm
      · have := hnew b B s N (by omega) (live_of_left hb hl) h4
        omega
    rcases hc b _ h2 with ⟨h3, h4⟩ | ⟨h3, h4⟩ <;> rcases hc b' _ h2' with ⟨h3', h4'⟩ | ⟨h3', h4'⟩
    · exact hs'.inj b b' B s N s' N' h0 (live_of_left h3 h1) (live_of_left h3' h1') h4 h4'
    · exact mix b b' s N s' N' h3 h3' h1 h1' h4 h4' (.inl h0)
    · exact (mix b' b s' N' s N h3' h3 h1' h1 h4' h4 (.inr h0)).symm
    · exact hs.inj b b' B s N s' N' h0 h1 h1' h4 h4'

/-- An operation that leaves what is there does the same wherever the frame's own memory begins. -/
def CallBase (C : Cfg) (call : Nat → CallF) : Prop := ∀ g, C.wr g = false → ∀ b b' args H, call b g args H = call b' g args H
theorem evalOp_base (hcb : CallBase C call) (hw : isW C o = false) (b b' : Nat) (ρ : Env) (H : Heap) : evalOp C call b true o ρ H = evalOp C call b' true o ρ H := by
  unfold evalOp
  split <;> first | rfl | skip
  · rename_i ho; simp [isW, ho] at hw
  · rename_i c ho
    split <;> first | rfl | skip
    · rename_i bi hb
      unfold builtinA
      split <;> first | rfl | skip
      · simp [isW, ho, hb] at hw
      · simp [isW, ho, hb] at hw
      · simp [isW, ho, hb] at hw
    · rename_i f hf
      split
      · rfl
      · unfold callA
        split
        · rename_i g first caps heq
          by_cases hd : true = true ∧ isStat f = false ∧ C.wr g = true
          · rw [if_pos hd, if_pos hd]
          · rw [if_neg hd, if_neg hd]
            refine hcb g ?_ b b' _ _
            cases f with
            | func g' =>
              simp only [ev, Value.func.injEq, Fn.func.injEq] at heq
              simp only [isW, ho, hf] at hw
              rw [← heq.1]; exact hw
            | tmp t => simp only [isStat, true_and, Bool.not_eq_true] at hd; simpa using hd
            | const v => simp only [isStat, true_and, Bool.not_eq_true] at hd; simpa using hd
            | global g' => simp only [isStat, true_and, Bool.not_eq_true] at hd; simpa using hd
        · rfl

theorem isM_of_W (h : isW C o = true) : isM C o = true := by
  unfold isW at h
  unfold isM
  split at h
  · rename_i ho; rw [ho]
  · rename_i c ho
    rw [ho]
    simp only
    split at h
    · rename_i hb; rw [hb]
    · rename_i hb; rw [hb]
    · rename_i hb; rw [hb]
    · rename_i f hb; rw [hb]
    · cases h
  · cases h
end
end Go.Am

/- A small machine over lists in the place of the memory: regions done in any order, the whole. No conditions. -/
namespace Go.Am
set_option linter.unusedSimpArgs false
set_option linter.unusedVariables false

/-- The round of a region as the small machine does it, step by step. -/
structure Canon (C : Cfg) (call : Nat → CallF) (base : Nat) (dr : Bool) (ops : Array Oper) (n : Nat) (ops' : Nat → Option Oper) (ρs : Nat → Env) (Hs : Nat → Heap) (vs : Nat → Value) : Prop where
  step : ∀ i, i < n → ∃ o, ops' i = some o ∧ ρs (i + 1) = putA (ρs i) o.dst (vs i) ∧
    ((wantA ops o (ρs i) = some true ∧ evalOp C call base dr o (ρs i) (Hs i) = some (vs i, Hs (i + 1))) ∨ (wantA ops o (ρs i) = some false ∧ vs i = sk ∧ Hs (i + 1) = Hs i))

theorem canon_of {C : Cfg} {call : Nat → CallF} {base : Nat} {dr : Bool} {ops : Array Oper} : ∀ (l : List Oper) (ρ : Env) (H : Heap) (ρ' : Env) (H' : Heap), runOps C call base dr ops l ρ H = some (ρ', H') →
    ∃ ρs Hs vs, ρs 0 = ρ ∧ Hs 0 = H ∧ ρs l.length = ρ' ∧ Hs l.length = H' ∧ Canon C call base dr ops l.length (fun i => l[i]?) ρs Hs vs := by
  intro l
  induction l with
  | nil =>
    intro ρ H ρ' H' h
    simp only [runOps, Option.some.injEq, Prod.mk.injEq] at h
    exact ⟨fun _ => ρ, fun _ => H, fun _ => undef, rfl, rfl, h.1, h.2, ⟨fun i hi => absurd hi (by simp)⟩⟩
  | cons o l ih =>
    intro ρ H ρ' H' h
    simp only [runOps] at h
    obtain ⟨g, hg, h⟩ := Option.bind_eq_some_iff.1 h
    cases g with
    | true =>
      simp only at h
      obtain ⟨x, hx, h⟩ := Option.bind_eq_some_iff.1 h
      obtain ⟨ρs, Hs, vs, e1, e2, e3, e4, hc⟩ := ih _ _ _ _ h
      refine ⟨fun i => if i = 0 then ρ else ρs (i - 1), fun i => if i = 0 then H else Hs (i - 1), fun i => if i = 0 then x.1 else vs (i - 1), rfl, rfl, by simpa using e3, by simpa using e4, ⟨fun i hi => ?_⟩⟩
      cases i with
      | zero => exact ⟨o, rfl, by simpa using e1, .inl ⟨hg, by simpa [e2] using hx⟩⟩
      | succ i =>
        obtain ⟨o', k1, k2, k3⟩ := hc.step i (by simpa using hi)
        exact ⟨o', by simpa using k1, by simpa using k2, by simpa using k3⟩
    | false =>
      simp only at h
      obtain ⟨ρs, Hs, vs, e1, e2, e3, e4, hc⟩ := ih _ _ _ _ h
      refine ⟨fun i => if i = 0 then ρ else ρs (i - 1), fun i => if i = 0 then H else Hs (i - 1), fun i => if i = 0 then sk else vs (i - 1), rfl, rfl, by simpa using e3, by simpa using e4, ⟨fun i hi => ?_⟩⟩
      cases i with
      | zero => exact ⟨o, rfl, by simpa using e1, .inr ⟨hg, rfl, by simpa using e2⟩⟩
      | succ i =>
        obtain ⟨o', k1, k2, k3⟩ := hc.step i (by simpa using hi)
        exact ⟨o', by simpa using k1, by simpa using k2, by simpa using k3⟩

/-- Does operation m write t? -/
def wrt (ops : Array Oper) (m : Nat) (t : Tmp) : Prop := (ops[m]?).bind (·.dst) = some t
instance (ops : Array Oper) (m : Nat) (t : Tmp) : Decidable (wrt ops m t) := by unfold wrt; exact inferInstance
/-- What a temporary holds behind the operations below m that are in S; and how far it may reach. -/
def valS (ρ0 : Env) (ops : Array Oper) (vs : Nat → Value) (S : Nat → Bool) : Nat → Tmp → Value
  | 0, t => ρ0.getD t undef
  | m + 1, t => if S m = true ∧ wrt ops m t then vs m else valS ρ0 ops vs S m t
def bndS (Hs : Nat → Heap) (ops : Array Oper) (S : Nat → Bool) : Nat → Tmp → Nat
  | 0, _ => (Hs 0).length
  | m + 1, t => if S m = true ∧ wrt ops m t then (Hs (m + 1)).length else bndS Hs ops S m t

section
variable {ρ0 : Env} {ops : Array Oper} {vs : Nat → Value} {Hs : Nat → Heap} {S S' : Nat → Bool}
theorem valS_congr {i n : Nat} {t : Tmp} (hin : i ≤ n) (h : ∀ m, m < n → wrt ops m t → (S m = true ↔ m < i)) : valS ρ0 ops vs S n t = valS ρ0 ops vs (fun _ => true) i t ∧ bndS Hs ops S n t = bndS Hs ops (fun _ => true) i t := by
  have lo : ∀ k, k ≤ i → valS ρ0 ops vs S k t = valS ρ0 ops vs (fun _ => true) k t ∧ bndS Hs ops S k t = bndS Hs ops (fun _ => true) k t := by
    intro k
    induction k with
    | zero => intro _; exact ⟨rfl, rfl⟩
    | succ k ih =>
      intro hk
      obtain ⟨h1, h2⟩ := ih (by omega)
      unfold valS bndS
      by_cases hw : wrt ops k t
      · have := (h k (by omega) hw).2 (by omega)
        rw [if_pos ⟨this, hw⟩, if_pos ⟨rfl, hw⟩, if_pos ⟨this, hw⟩, if_pos ⟨rfl, hw⟩]; exact ⟨rfl, rfl⟩
      · rw [if_neg (fun e => hw e.2), if_neg (fun e => hw e.2), if_neg (fun e => hw e.2), if_neg (fun e => hw e.2)]; exact ⟨h1, h2⟩
  have hi : ∀ d, i + d ≤ n → valS ρ0 ops vs S (i + d) t = valS ρ0 ops vs (fun _ => true) i t ∧ bndS Hs ops S (i + d) t = bndS Hs ops (fun _ => true) i t := by
    intro d
    induction d with
    | zero => intro _; exact lo i (Nat.le_refl _)
    | succ d ih =>
      intro hd
      obtain ⟨h1, h2⟩ := ih (by omega)
      show valS ρ0 ops vs S (i + d + 1) t = _ ∧ bndS Hs ops S (i + d + 1) t = _
      rw [valS, bndS]
      have hno : ¬ (S (i + d) = true ∧ wrt ops (i + d) t) := fun e => by have := (h (i + d) (by omega) e.2).1 e.1; omega
      rw [if_neg hno, if_neg hno]; exact ⟨h1, h2⟩
  have := hi (n - i) (by omega)
  rwa [Nat.add_sub_cancel' hin] at this
theorem bndS_le (t : Tmp) : ∀ i : Nat, (∀ m, m < i → (Hs m).length ≤ (Hs (m + 1)).length) → bndS Hs ops S i t ≤ (Hs i).length := by
  intro i
  induction i with
  | zero => intro _; exact Nat.le_refl _
  | succ i ih =>
    intro hmono
    unfold bndS
    split
    · exact Nat.le_refl _
    · exact Nat.le_trans (ih fun m hm => hmono m (by omega)) (hmono i (by omega))
theorem valS_set {i n : Nat} {t : Tmp} (hin : i < n) (hS : ∀ m, S' m = (S m || m == i)) (hi : S i = false) (h : ∀ m, i < m → m < n → S m = true → wrt ops m t → ¬ wrt ops i t) :
    valS ρ0 ops vs S' n t = (if wrt ops i t then vs i else valS ρ0 ops vs S n t) ∧ bndS Hs ops S' n t = (if wrt ops i t then (Hs (i + 1)).length else bndS Hs ops S n t) := by
  have lo : ∀ k, k ≤ i → valS ρ0 ops vs S' k t = valS ρ0 ops vs S k t ∧ bndS Hs ops S' k t = bndS Hs ops S k t := by
    intro k
    induction k with
    | zero => intro _; exact ⟨rfl, rfl⟩
    | succ k ih =>
      intro hk
      obtain ⟨h1, h2⟩ := ih (by omega)
      have e : S' k = S k := by rw [hS]; simp; omega
      unfold valS bndS
      rw [e, h1, h2]; exact ⟨rfl, rfl⟩
  have hh : ∀ d, i + 1 + d ≤ n → valS ρ0 ops vs S' (i + 1 + d) t = (if wrt ops i t then vs i else valS ρ0 ops vs S (i + 1 + d) t) ∧ bndS Hs ops S' (i + 1 + d) t = (if wrt ops i t then (Hs (i + 1)).length else bndS Hs ops S (i + 1 + d) t) := by
    intro d
    induction d with
    | zero =>
      intro _
      obtain ⟨h1, h2⟩ := lo i (Nat.le_refl _)
      have e : S' i = true := by rw [hS]; simp
      show valS ρ0 ops vs S' (i + 1) t = (if wrt ops i t then vs i else valS ρ0 ops vs S (i + 1) t) ∧ bndS Hs ops S' (i + 1) t = (if wrt ops i t then (Hs (i + 1)).length else bndS Hs ops S (i + 1) t)
      simp only [valS, bndS, e, hi, h1, h2]
      by_cases hw : wrt ops i t <;> simp [hw]
    | succ d ih =>
      intro hd
      obtain ⟨h1, h2⟩ := ih (by omega)
      have e : S' (i + 1 + d) = S (i + 1 + d) := by rw [hS]; simp; omega
      rw [Nat.add_succ]
      simp only [valS, bndS, e, h1, h2]
      by_cases hw : S (i + 1 + d) = true ∧ wrt ops (i + 1 + d) t
      · have := h (i + 1 + d) (by omega) (by omega) hw.1 hw.2
        simp [hw, this]
      · simp [hw]
  have := hh (n - (i + 1)) (by omega)
  rwa [Nat.add_sub_cancel' (by omega)] at this
end

section
variable {C : Cfg} {nf base : Nat} {call : Nat → CallF} {ops : Array Oper} {ρs : Nat → Env} {Hs : Nat → Heap} {vs : Nat → Value} {β0 : Beta} {a0 : Act} {w0 : World} {Q : Exit → Act → World → Prop}

/-- Where the region stands when the operations in 'listed' are done. -/
structure At (C : Cfg) (nf base : Nat) (ops : Array Oper) (ρ0 : Env) (Hs : Nat → Heap) (vs : Nat → Value) (β0 : Beta) (a0 : Act) (w0 : World) (listed : Array Bool) (β : Beta) (a : Act) (w : World) (σ τ : Nat) : Prop where
  size : listed.size = ops.size
  closed : ∀ (j : Nat) (o : Oper), ops[j]? = some o → listed.getD j false = true → ∀ e ∈ o.after, Region.binds .any e = true → listed.getD e.on false = true
  tsz : a.tmps.size = ρ0.length
  env : ∀ t : Tmp, t < ρ0.length → VR (restr (max (bndS Hs ops (fun i => listed.getD i false) ops.size t) (Hs σ).length) β) (valS ρ0 ops vs (fun i => listed.getD i false) ops.size t) (a.tmps.getD t undef)
  post : Post nf base β0 (Hs 0) w0 β (Hs τ) w
  st : σ ≤ τ
  tn : τ ≤ ops.size
  quiet : ∀ (i : Nat) (o : Oper), σ ≤ i → i < τ → ops[i]? = some o → isW C o = false
  last : σ = 0 ∨ ∃ (o : Oper), ops[σ - 1]? = some o ∧ isW C o = true ∧ listed.getD (σ - 1) false = true
  tw : ∀ (i : Nat) (o : Oper), i < σ → ops[i]? = some o → isW C o = true → listed.getD i false = true
  tl : ∀ o : Oper, ops[τ]? = some o → isW C o = true
  tm : ∀ (i : Nat) (o : Oper), τ ≤ i → ops[i]? = some o → isM C o = true → addrT o = none → listed.getD i false = false
  fam : ∀ m, σ ≤ m → m ≤ τ → Sim nf (restr (Hs m).length β) (Hs m) w
  dom : ∀ b x, β b = some x → b < (Hs 0).length ∨ ∃ i, i < ops.size ∧ listed.getD i false = true ∧ (Hs i).length ≤ b ∧ b < (Hs (i + 1)).length ∧ ∃ o, ops[i]? = some o ∧ isM C o = true ∧ addrT o = none
  defers : a.defers = a0.defers

theorem prefix_chain (hstep : ∀ (i : Nat) (o : Oper), ops[i]? = some o → isW C o = false → ∃ F, Hs (i + 1) = Hs i ++ F) : ∀ (d σ : Nat), σ + d ≤ ops.size → (∀ (i : Nat) (o : Oper), σ ≤ i → i < σ + d → ops[i]? = some o → isW C o = false) → ∃ F, Hs (σ + d) = Hs σ ++ F := by
  intro d
  induction d with
  | zero => intro σ _ _; exact ⟨[], by simp⟩
  | succ d ih =>
    intro σ hn hq
    obtain ⟨F, hF⟩ := ih σ (by omega) (fun i o h1 h2 => hq i o h1 (by omega))
    have hlt : σ + d < ops.size := by omega
    obtain ⟨F2, hF2⟩ := hstep (σ + d) ops[σ + d] (by simp [hlt]) (hq (σ + d) _ (by omega) (by omega) (by simp [hlt]))
    exact ⟨F ++ F2, by rw [show σ + (d + 1) = σ + d + 1 by omega, hF2, hF, List.append_assoc]⟩

/-- The next operation, from σ on, that turns what is there. -/
theorem next_W (C : Cfg) (ops : Array Oper) (σ : Nat) (hσ : σ ≤ ops.size) : ∃ τ, σ ≤ τ ∧ τ ≤ ops.size ∧ (∀ (i : Nat) (o : Oper), σ ≤ i → i < τ → ops[i]? = some o → isW C o = false) ∧ (∀ o : Oper, ops[τ]? = some o → isW C o = true) := by
  have key : ∀ d σ, ops.size - σ = d → σ ≤ ops.size → ∃ τ, σ ≤ τ ∧ τ ≤ ops.size ∧ (∀ (i : Nat) (o : Oper), σ ≤ i → i < τ → ops[i]? = some o → isW C o = false) ∧ (∀ o : Oper, ops[τ]? = some o → isW C o = true) := by
    intro d
    induction d with
    | zero =>
      intro σ h1 h2
      refine ⟨σ, Nat.le_refl _, h2, fun i o h3 h4 => by omega, fun o ho => ?_⟩
      have := (Array.getElem?_eq_some_iff.1 ho).1
      omega
    | succ d ih =>
      intro σ h1 h2
      have hlt : σ < ops.size := by omega
      cases hw : isW C ops[σ] with
      | true =>
        refine ⟨σ, Nat.le_refl _, h2, fun i o h3 h4 => by omega, fun o ho => ?_⟩
        simp [hlt] at ho; subst ho; exact hw
      | false =>
        obtain ⟨τ, k1, k2, k3, k4⟩ := ih (σ + 1) (by omega) (by omega)
        refine ⟨τ, by omega, k2, fun i o h3 h4 ho => ?_, k4⟩
        by_cases hi : i = σ
        · subst hi; simp [hlt] at ho; subst ho; exact hw
        · exact k3 i o (by omega) h4 ho
  exact key _ σ rfl hσ

theorem set_get (listed : Array Bool) (i : Nat) (hi : i < listed.size) (m : Nat) : (listed.setIfInBounds i true).getD m false = (listed.getD m false || m == i) := by
  by_cases h : i = m
  · subst h; simp [hi]
  · rw [getD_set_ne false h]
    have : (m == i) = false := by simp; omega
    rw [this, Bool.or_false]

def left (listed : Array Bool) (n : Nat) : Nat := ((List.range n).filter fun i => !listed.getD i false).length
theorem left_set (listed : Array Bool) (i n : Nat) (hi : i < n) (hs : i < listed.size) (hl : listed.getD i false = false) : left (listed.setIfInBounds i true) n < left listed n := by
  have key : ∀ n, i < n → left (listed.setIfInBounds i true) n + 1 ≤ left listed n := by
    have lo : ∀ n, n ≤ i → left (listed.setIfInBounds i true) n = left listed n := by
      intro n
      induction n with
      | zero => intro _; rfl
      | succ n ih =>
        intro hn
        have := ih (by omega)
        unfold left at this ⊢
        rw [List.range_succ, List.filter_append, List.filter_append, List.length_append, List.length_append, this]
        have e : (listed.setIfInBounds i true).getD n false = listed.getD n false := getD_set_ne false (by omega)
        simp only [List.filter_cons, List.filter_nil, e]
    intro n
    induction n with
    | zero => intro h; omega
    | succ n ih =>
      intro hn
      by_cases hni : n = i
      · subst hni
        have h1 := lo n (Nat.le_refl _)
        unfold left at h1 ⊢
        rw [List.range_succ, List.filter_append, List.filter_append, List.length_append, List.length_append, h1]
        have e : (listed.setIfInBounds n true).getD n false = true := by simp [hs]
        simp only [List.filter_cons, List.filter_nil, e, hl]
        simp
      · have h1 := ih (by omega)
        unfold left at h1 ⊢
        rw [List.range_succ, List.filter_append, List.filter_append, List.length_append, List.length_append]
        have e : (listed.setIfInBounds i true).getD n false = listed.getD n false := getD_set_ne false (fun h => hni h.symm)
        simp only [List.filter_cons, List.filter_nil, e]
        omega
  have := key n hi
  omega
end
end Go.Am

/- A small machine over lists in the place of the memory: regions done in any order come to what the small machine says. No conditions. -/
namespace Go.Am
set_option linter.unusedSimpArgs false
set_option linter.unusedVariables false

theorem Post.extend {nf base : Nat} {β β' : Beta} {H H' : Heap} {w w' : World} (h : Post nf base β H w β' H' w') (F : Heap) : Post nf base β H w β' (H' ++ F) w' :=
  { h with
    sim := h.sim.extend F
    len := by have := h.len; simp; omega
    new := fun b B s N h1 h2 h3 => by
      have hb := h.sim.dom b _ h3
      refine (h.new b B s N h1 (live_of_left hb h2) h3).imp id fun ⟨b0, s0, N0, k1, k2, k3, k4⟩ => ⟨b0, s0, N0, k1, k2, fun hl => k3 (live_of_left (Nat.lt_of_lt_of_le k2.lt h.len) hl), k4⟩
    dead := fun b h1 h2 => h.dead b h1 (live_of_left (Nat.lt_of_lt_of_le h1 h.len) h2) }

theorem want_ok' {β : Beta} {ρ : Env} {a : Act} {ops : Array Oper} {o : Oper} {g : Bool} (hlen : List.length ρ = a.tmps.size) (h : ∀ t ∈ o.looksAt ops, t < List.length ρ → VR β (ρ.getD t undef) (a.tmps.getD t undef)) (hw : wantA ops o ρ = some g) : Region.wanted o (yielded ops a.tmps) = g := by
  unfold wantA at hw
  unfold Region.wanted
  split at hw
  · rename_i hg; rw [hg]; simpa using hw
  · rename_i j want hg
    rw [hg]
    split at hw
    · cases hw
    · rename_i t ht
      split at hw
      · rename_i b hb
        simp only [Option.some.injEq] at hw
        subst hw
        have hlt : t < List.length ρ := (List.getElem?_eq_some_iff.1 hb).1
        have hlt' : t < a.tmps.size := by rw [← hlen]; exact hlt
        have h1 := h t (by unfold Oper.looksAt; rw [hg]; simp [ht]) hlt
        simp only [List.getD_eq_getElem?_getD, hb, Option.getD_some, Array.getD_eq_getD_getElem?, Array.getElem?_eq_getElem hlt'] at h1
        have h2 := h1.of_sc rfl
        simp only [yielded, ht, Option.bind_some, Array.getElem?_eq_getElem hlt', h2]
        cases b <;> cases want <;> rfl
      · rename_i r hb
        simp only [Option.some.injEq] at hw
        subst hw
        have hlt : t < List.length ρ := (List.getElem?_eq_some_iff.1 hb).1
        have hlt' : t < a.tmps.size := by rw [← hlen]; exact hlt
        have h1 := h t (by unfold Oper.looksAt; rw [hg]; simp [ht]) hlt
        simp only [List.getD_eq_getElem?_getD, hb, Option.getD_some, Array.getD_eq_getD_getElem?, Array.getElem?_eq_getElem hlt'] at h1
        have h2 : a.tmps[t] = undef := by
          generalize a.tmps[t] = u at h1
          cases h1 with
          | sc h => simp [Am.sc] at h
          | skip => rfl
        simp only [yielded, ht, Option.bind_some, Array.getElem?_eq_getElem hlt', h2]
        cases want <;> rfl
      · cases hw

section
variable {C : Cfg} {nf base : Nat} {call : Nat → CallF} {ops : Array Oper} {ρs : Nat → Env} {Hs : Nat → Heap} {vs : Nat → Value} {β0 : Beta} {a0 : Act} {w0 : World} {Q : Exit → Act → World → Prop}

theorem loose_row {b : Array Nat} {j : Nat} : ∀ (n : Nat) {l : List (Tmp × Tmp)}, looseRow C ops b j n = some l → ∀ i, i < n → meets C ops (ops.getD i default) (ops.getD j default) = true → (b.getD j 0).testBit i = true ∨ ∃ pr ∈ l, loosePair ops i j (ops.getD i default) (ops.getD j default) = some pr := by
  intro n
  induction n with
  | zero => intro l _ i hi; omega
  | succ n ih =>
    intro l h i hi hm
    simp only [looseRow] at h
    obtain ⟨l0, h1, h2⟩ := Option.bind_eq_some_iff.1 h
    by_cases hq : (!meets C ops (ops.getD n default) (ops.getD j default) || (b.getD j 0).testBit n) = true
    · rw [if_pos hq] at h2; cases h2
      by_cases hin : i = n
      · subst hin
        rw [hm] at hq
        exact .inl (by simpa using hq)
      · exact ih h1 i (by omega) hm
    · rw [if_neg hq] at h2
      obtain ⟨pr, h3, rfl⟩ := Option.map_eq_some_iff.1 h2
      by_cases hin : i = n
      · subst hin
        exact .inr ⟨pr, List.mem_cons_self, h3⟩
      · exact (ih h1 i (by omega) hm).imp id fun ⟨q, q1, q2⟩ => ⟨q, List.mem_cons_of_mem _ q1, q2⟩
theorem loose_to {b : Array Nat} : ∀ (n : Nat) {l : List (Tmp × Tmp)}, looseTo C ops b n = some l → ∀ j, j < n → ((ops.getD j default).after.all fun e => !Region.binds .any e || decide (e.on < j)) = true ∧
    ∀ i, i < j → meets C ops (ops.getD i default) (ops.getD j default) = true → (b.getD j 0).testBit i = true ∨ ∃ pr ∈ l, loosePair ops i j (ops.getD i default) (ops.getD j default) = some pr := by
  intro n
  induction n with
  | zero => intro l _ j hj; omega
  | succ n ih =>
    intro l h j hj
    simp only [looseTo] at h
    obtain ⟨l0, h1, h2⟩ := Option.bind_eq_some_iff.1 h
    split at h2
    · rename_i he
      obtain ⟨l1, h3, rfl⟩ := Option.map_eq_some_iff.1 h2
      by_cases hjn : j = n
      · subst hjn
        exact ⟨he, fun i hi hm => (loose_row j h3 i hi hm).imp id fun ⟨q, q1, q2⟩ => ⟨q, List.mem_append_left _ q1, q2⟩⟩
      · obtain ⟨k1, k2⟩ := ih h1 j (by omega)
        exact ⟨k1, fun i hi hm => (k2 i hi hm).imp id fun ⟨q, q1, q2⟩ => ⟨q, List.mem_append_right _ q1, q2⟩⟩
    · cases h2
theorem draw_edges {ps : List (Tmp × Tmp)} (hd : loose C ops = some ps) (j : Nat) (o : Oper) (ho : ops[j]? = some o) : (∀ e ∈ o.after, Region.binds .any e = true → e.on < j) ∧
    ∀ (i : Nat) (p : Oper), i < j → ops[i]? = some p → meets C ops p o = true → ((Region.before ops).getD j 0).testBit i = true ∨ ∃ pr ∈ ps, loosePair ops i j p o = some pr := by
  unfold loose at hd
  rw [CheckFast.beforeF_eq] at hd
  have hj := (Array.getElem?_eq_some_iff.1 ho).1
  obtain ⟨h1, h2⟩ := loose_to _ hd j hj
  have e : ops.getD j default = o := by simp [Array.getD_eq_getD_getElem?, ho]
  rw [e] at h1 h2
  refine ⟨fun ed he hb => ?_, fun i p hi hp hm => ?_⟩
  · rw [Array.all_eq_true_iff_forall_mem] at h1
    have := h1 ed he
    simpa [hb] using this
  · have := h2 i hi
    rw [show ops.getD i default = p by simp [Array.getD_eq_getD_getElem?, hp]] at this
    exact this hm
theorem loosePair_spec {i j : Nat} {x y : Oper} {a b : Tmp} (h : loosePair ops i j x y = some (a, b)) : tmpsMeet ops x y = false ∧ ((addrT x = some a ∧ tgtT y = some b ∧ onceT ops a i = true ∧ onceT ops b j = true) ∨ (tgtT x = some b ∧ addrT y = some a ∧ onceT ops b i = true ∧ onceT ops a j = true)) := by
  unfold loosePair at h
  split at h
  · cases h
  · rename_i ht
    refine ⟨by simpa using ht, ?_⟩
    split at h
    · rename_i a' b' h1 h2
      split at h
      · rename_i h3
        simp only [Option.some.injEq, Prod.mk.injEq, Bool.and_eq_true] at h h3
        obtain ⟨rfl, rfl⟩ := h
        exact .inl ⟨h1, h2, h3.1, h3.2⟩
      · cases h
    · split at h
      · rename_i b' a' h1 h2
        split at h
        · rename_i h3
          simp only [Option.some.injEq, Prod.mk.injEq, Bool.and_eq_true] at h h3
          obtain ⟨rfl, rfl⟩ := h
          exact .inr ⟨h1, h2, h3.1, h3.2⟩
        · cases h
      · cases h
theorem addrT_W {o : Oper} (h : isW C o = true) : addrT o = none := by
  unfold isW at h
  unfold addrT
  split at h
  · rename_i ho; rw [ho]
  · rename_i ho; rw [ho]
  · cases h
theorem tgtT_load {o : Oper} {a : Tmp} (h : addrT o = some a) : tgtT o = none := by
  unfold addrT at h
  split at h
  · rename_i ho; unfold tgtT; rw [ho]
  · cases h
theorem isM_load {o : Oper} {a : Tmp} (h : addrT o = some a) : isM C o = true ∧ isW C o = false := by
  unfold addrT at h
  split at h
  · rename_i ho; unfold isM isW; rw [ho]; exact ⟨rfl, rfl⟩
  · cases h
/-- Where no pair of a load and a write is meant, one stands before the other. -/
theorem strict_edges {ps : List (Tmp × Tmp)} (hd : loose C ops = some ps) {i j : Nat} {p o : Oper} (ho : ops[j]? = some o) (hij : i < j) (hp : ops[i]? = some p)
    (h : tmpsMeet ops p o = true ∨ (isW C p = true ∧ isM C o = true ∧ addrT o = none) ∨ (isM C p = true ∧ addrT p = none ∧ isW C o = true)) : ((Region.before ops).getD j 0).testBit i = true := by
  have hm : meets C ops p o = true := by
    unfold meets
    rcases h with h | ⟨h1, h2, _⟩ | ⟨h1, _, h2⟩
    · simp [h]
    · simp [h1, h2]
    · simp [h1, h2]
  rcases (draw_edges hd j o ho).2 i p hij hp hm with hb | ⟨⟨a, b⟩, _, hl⟩
  · exact hb
  · exfalso
    obtain ⟨k1, k2⟩ := loosePair_spec hl
    rcases h with h | ⟨h1, h2, h3⟩ | ⟨h1, h2, h3⟩
    · rw [h] at k1; cases k1
    · rcases k2 with ⟨e1, _⟩ | ⟨_, e2, _⟩
      · rw [addrT_W h1] at e1; cases e1
      · rw [h3] at e2; cases e2
    · rcases k2 with ⟨e1, _⟩ | ⟨_, e2, _⟩
      · rw [h2] at e1; cases e1
      · rw [addrT_W h3] at e2; cases e2

theorem append_tgt {P : Program} {base : Nat} {H : Heap} {t : TypeId} {s x : Value} {r : Value × Heap} {b of : Nat} (h : appendA P base H t s x = some r) (hne : blkNe (.pointer (some ⟨b, of, none⟩)) s = true) (hb : b < H.length) : r.2[b]? = H[b]? := by
  unfold appendA at h
  obtain ⟨e, he, h1⟩ := Option.bind_eq_some_iff.1 h
  obtain ⟨es, hes, h2⟩ := Option.bind_eq_some_iff.1 h1
  obtain ⟨y, hy, h3⟩ := Option.bind_eq_some_iff.1 h2
  clear h h1 h2
  split at h3
  · split at h3
    · split at h3
      · cases h3; rfl
      · split at h3
        · cases h3; exact List.getElem?_append_left hb
        · cases h3
    · rename_i b2 o es' n cap
      simp only [blkNe, decide_eq_true_eq] at hne
      by_cases h4 : es' ≠ es
      · rw [if_pos h4] at h3; cases h3
      rw [if_neg h4] at h3
      by_cases h5 : y.1 = 0
      · rw [if_pos h5] at h3; cases h3; rfl
      rw [if_neg h5] at h3
      by_cases h6 : base ≤ b2
      · rw [if_pos h6] at h3
        obtain ⟨c, hc, h7⟩ := Option.bind_eq_some_iff.1 h3
        clear h3
        by_cases h8 : n + y.1 ≤ cap
        · rw [if_pos h8] at h7
          by_cases h9 : o + (n + y.1) * es ≤ c.2.length
          · rw [if_pos h9] at h7; cases h7; exact List.getElem?_set_ne (fun e => hne e.symm)
          · rw [if_neg h9] at h7; cases h7
        · rw [if_neg h8] at h7
          by_cases h9 : o + n * es = c.2.length ∧ n + y.1 ≤ room
          · rw [if_pos h9] at h7; cases h7
            show (H.set b2 none ++ _)[b]? = _
            rw [List.getElem?_append_left (by simpa using hb)]
            exact List.getElem?_set_ne (fun e => hne e.symm)
          · rw [if_neg h9] at h7; cases h7
      · rw [if_neg h6] at h3; cases h3
    · cases h3
  · cases h3
theorem copy_tgt {P : Program} {base : Nat} {H : Heap} {t : TypeId} {s x : Value} {r : Value × Heap} {b of : Nat} (h : copyA P base H t s x = some r) (hne : blkNe (.pointer (some ⟨b, of, none⟩)) s = true) : r.2[b]? = H[b]? := by
  unfold copyA at h
  obtain ⟨e, he, h1⟩ := Option.bind_eq_some_iff.1 h
  obtain ⟨es, hes, h2⟩ := Option.bind_eq_some_iff.1 h1
  obtain ⟨y, hy, h3⟩ := Option.bind_eq_some_iff.1 h2
  clear h h1 h2
  split at h3
  · cases h3; rfl
  · simp only [blkNe, decide_eq_true_eq] at hne
    split at h3
    · obtain ⟨c, hc, h7⟩ := Option.bind_eq_some_iff.1 h3
      split at h7
      · cases h7; exact List.getElem?_set_ne (fun e => hne e.symm)
      · cases h7
    · cases h3
  · cases h3
theorem clear_tgt {P : Program} {base : Nat} {H H' : Heap} {t : TypeId} {s : Value} {b of : Nat} (h : clearA P base H t s = some H') (hne : blkNe (.pointer (some ⟨b, of, none⟩)) s = true) : H'[b]? = H[b]? := by
  unfold clearA at h
  split at h
  · obtain ⟨e, he, rfl⟩ := Option.map_eq_some_iff.1 h; rfl
  · simp only [blkNe, decide_eq_true_eq] at hne
    obtain ⟨e, he, h1⟩ := Option.bind_eq_some_iff.1 h
    obtain ⟨z, hz, h2⟩ := Option.bind_eq_some_iff.1 h1
    clear h h1
    split at h2
    · split at h2
      · cases h2; rfl
      · split at h2
        · obtain ⟨c, hc, h7⟩ := Option.bind_eq_some_iff.1 h2
          split at h7
          · cases h7; exact List.getElem?_set_ne (fun e => hne e.symm)
          · cases h7
        · cases h2
    · cases h2
  · cases h
/-- A write leaves every block but its own. -/
theorem evalOp_tgt {base : Nat} {dr : Bool} {o : Oper} {ρ : Env} {H : Heap} {r : Value × Heap} {y : Tmp} {b of : Nat} (ht : tgtT o = some y) (h : evalOp C call base dr o ρ H = some r) (hne : blkNe (.pointer (some ⟨b, of, none⟩)) (ρ.getD y undef) = true) (hb : b < H.length) : r.2[b]? = H[b]? := by
  unfold tgtT at ht
  split at ht
  · rename_i t x ho
    cases ht
    unfold evalOp at h
    rw [ho] at h
    simp only at h
    obtain ⟨H1, h1, rfl⟩ := Option.map_eq_some_iff.1 h
    unfold storeA at h1
    split at h1
    · rename_i b2 o2 heq
      simp only [ev] at heq
      rw [heq] at hne
      split at h1
      · obtain ⟨c, hc, h7⟩ := Option.bind_eq_some_iff.1 h1
        split at h7
        · cases h7
          simp only [blkNe, decide_eq_true_eq] at hne
          exact List.getElem?_set_ne (fun e => hne e.symm)
        · cases h7
      · cases h1
    · cases h1
  · rename_i c ho
    have hex : ∃ t l, c.args.toList = .tmp t :: l ∧ t = y := by
      split at ht
      · split at ht
        · rename_i t l e; cases ht; exact ⟨_, l, e, rfl⟩
        · cases ht
      · split at ht
        · rename_i t l e; cases ht; exact ⟨_, l, e, rfl⟩
        · cases ht
      · split at ht
        · rename_i t l e; cases ht; exact ⟨_, l, e, rfl⟩
        · cases ht
      · cases ht
    have hb3 : c.callee = .builtin .append ∨ c.callee = .builtin .copy ∨ c.callee = .builtin .clear := by
      split at ht
      · rename_i h; exact .inl h
      · rename_i h; exact .inr (.inl h)
      · rename_i h; exact .inr (.inr h)
      · cases ht
    obtain ⟨t0, l0, e0, rfl⟩ := hex
    unfold evalOp at h
    rw [ho] at h
    simp only at h
    have hmap : c.args.toList.map (ev ρ) = ρ.getD t0 undef :: l0.map (ev ρ) := by rw [e0]; rfl
    have hgr : ∀ {r : Value × Heap}, valH H (groundA C.P ρ o) = some r → r.2[b]? = H[b]? := fun h => by rw [valH_heap h]
    rcases hb3 with hcal | hcal | hcal
    · rw [hcal] at h
      simp only [hmap] at h
      cases hl : l0.map (ev ρ) with
      | nil => rw [hl] at h; exact hgr h
      | cons x l =>
        rw [hl] at h
        cases l with
        | nil =>
          simp only [builtinA] at h
          obtain ⟨t, _, h1⟩ := Option.bind_eq_some_iff.1 h
          obtain ⟨u, _, h2⟩ := Option.bind_eq_some_iff.1 h1
          split at h2
          · exact append_tgt h2 hne hb
          · cases h2
        | cons x2 l => exact hgr h
    · rw [hcal] at h
      simp only [hmap] at h
      cases hl : l0.map (ev ρ) with
      | nil => rw [hl] at h; exact hgr h
      | cons x l =>
        rw [hl] at h
        cases l with
        | nil =>
          simp only [builtinA] at h
          obtain ⟨t, _, h1⟩ := Option.bind_eq_some_iff.1 h
          exact copy_tgt h1 hne
        | cons x2 l => exact hgr h
    · rw [hcal] at h
      simp only [hmap] at h
      cases hl : l0.map (ev ρ) with
      | nil =>
        rw [hl] at h
        simp only [builtinA] at h
        obtain ⟨t, _, h1⟩ := Option.bind_eq_some_iff.1 h
        obtain ⟨H1, h2, rfl⟩ := Option.map_eq_some_iff.1 h1
        exact clear_tgt h2 hne
      | cons x l => rw [hl] at h; exact hgr h
  · cases ht

theorem putA_len (ρ : Env) (d : Option Tmp) (v : Value) : List.length (putA ρ d v) = List.length ρ := by cases d <;> simp [putA]

/-- The small machine's temporaries, told by the last writer. -/
theorem canon_val (hcan : Canon C call base true ops ops.size (fun i => ops.toList[i]?) ρs Hs vs) : ∀ m, m ≤ ops.size → List.length (ρs m) = List.length (ρs 0) ∧ ∀ t : Tmp, t < List.length (ρs 0) → (ρs m).getD t undef = valS (ρs 0) ops vs (fun _ => true) m t := by
  intro m
  induction m with
  | zero => intro _; exact ⟨rfl, fun t _ => rfl⟩
  | succ m ih =>
    intro hm
    obtain ⟨h1, h2⟩ := ih (by omega)
    obtain ⟨o, k1, k2, _⟩ := hcan.step m (by omega)
    have ho : ops[m]? = some o := by simpa using k1
    rw [k2]
    refine ⟨by rw [putA_len]; exact h1, fun t ht => ?_⟩
    unfold valS
    by_cases hw : wrt ops m t
    · rw [if_pos ⟨rfl, hw⟩]
      unfold wrt at hw
      rw [ho] at hw
      simp only [Option.bind_some] at hw
      rw [hw]
      simp only [putA, List.getD_eq_getElem?_getD]
      rw [List.getElem?_set_self (by rw [h1]; exact ht)]; rfl
    · rw [if_neg (fun e => hw e.2), ← h2 t ht]
      unfold wrt at hw
      rw [ho] at hw
      simp only [Option.bind_some] at hw
      cases hd : o.dst with
      | none => rfl
      | some d =>
        rw [hd] at hw
        simp only [putA, List.getD_eq_getElem?_getD]
        rw [List.getElem?_set_ne (fun e => hw (by rw [e]))]

theorem canon_len (hk : CallKeeps C call) (hbl : base ≤ (Hs 0).length) (hcan : Canon C call base true ops ops.size (fun i => ops.toList[i]?) ρs Hs vs) : ∀ m, m ≤ ops.size → base ≤ (Hs m).length ∧ (m < ops.size → (Hs m).length ≤ (Hs (m + 1)).length) := by
  have step : ∀ m, m < ops.size → base ≤ (Hs m).length → (Hs m).length ≤ (Hs (m + 1)).length := fun m hm hb => by
    obtain ⟨p, k1, k2, k3⟩ := hcan.step m hm
    rcases k3 with ⟨_, k4⟩ | ⟨_, _, k4⟩
    · exact (evalOp_keeps hk hb k4).1.1
    · rw [k4]; exact Nat.le_refl _
  intro m
  induction m with
  | zero => intro _; exact ⟨hbl, fun h => step 0 h hbl⟩
  | succ m ih =>
    intro hm
    obtain ⟨h1, h2⟩ := ih (by omega)
    have hb := Nat.le_trans h1 (h2 (by omega))
    exact ⟨hb, fun h => step _ h hb⟩
theorem canon_prefix (hk : CallKeeps C call) (hbl : base ≤ (Hs 0).length) (hcan : Canon C call base true ops ops.size (fun i => ops.toList[i]?) ρs Hs vs) (m : Nat) (o : Oper) (ho : ops[m]? = some o) (hw : isW C o = false) : ∃ F, Hs (m + 1) = Hs m ++ F := by
  have hm := (Array.getElem?_eq_some_iff.1 ho).1
  obtain ⟨p, k1, k2, k3⟩ := hcan.step m hm
  have e : p = o := by have : ops[m]? = some p := by simpa using k1
                       rw [ho] at this; exact (Option.some.inj this).symm
  subst e
  rcases k3 with ⟨_, k4⟩ | ⟨_, _, k4⟩
  · exact (evalOp_keeps hk (canon_len hk hbl hcan m (by omega)).1 k4).2.1 rfl hw
  · exact ⟨[], by simp [k4]⟩
theorem len_chain (hlen : ∀ m, m < ops.size → (Hs m).length ≤ (Hs (m + 1)).length) {i j : Nat} (hij : i ≤ j) (hj : j ≤ ops.size) : (Hs i).length ≤ (Hs j).length := by
  obtain ⟨d, rfl⟩ : ∃ d, j = i + d := ⟨j - i, by omega⟩
  clear hij
  induction d with
  | zero => exact Nat.le_refl _
  | succ d ih => exact Nat.le_trans (ih (by omega)) (hlen (i + d) (by omega))

theorem meets_W {x y : Oper} (h1 : isW C x = true) (h2 : isM C y = true) : meets C ops x y = true := by unfold meets; simp [h1, h2]
theorem meets_W' {x y : Oper} (h1 : isM C x = true) (h2 : isW C y = true) : meets C ops x y = true := by unfold meets; simp [h1, h2]
theorem meets_t {x y : Oper} {t : Tmp} (h1 : x.dst = some t) (h2 : t ∈ y.looksAt ops ∨ y.dst = some t) : meets C ops x y = true := by
  unfold meets tmpsMeet; rw [h1]; rcases h2 with h2 | h2 <;> simp [h2]
theorem meets_t' {x y : Oper} {t : Tmp} (h1 : y.dst = some t) (h2 : t ∈ x.looksAt ops) : meets C ops x y = true := by
  unfold meets tmpsMeet; rw [h1]; simp [h2]

theorem VR.blk {β : Beta} {b o : Nat} {u : Value} (h : VR β (.pointer (some ⟨b, o, none⟩)) u) : ∃ z, β b = some z := by
  cases h with
  | sc h => simp [Am.sc] at h
  | ptr h => exact ⟨_, h⟩
theorem VR.ptr_restr {β : Beta} {n m b o : Nat} {u : Value} (h : VR (restr n β) (.pointer (some ⟨b, o, none⟩)) u) (hb : b < m) : VR (restr m β) (.pointer (some ⟨b, o, none⟩)) u := by
  cases h with
  | sc h => simp [Am.sc] at h
  | ptr h =>
    rename_i B s N
    have h2 : restr m β b = some (B, s, N) := by
      unfold restr at h ⊢
      rw [if_pos hb]
      split at h
      · exact h
      · cases h
    exact .ptr h2
theorem tm_t {x y : Oper} {t : Tmp} (h1 : x.dst = some t) (h2 : t ∈ y.looksAt ops ∨ y.dst = some t) : tmpsMeet ops x y = true := by
  unfold tmpsMeet; rw [h1]; rcases h2 with h2 | h2 <;> simp [h2]
theorem tm_t' {x y : Oper} {t : Tmp} (h1 : y.dst = some t) (h2 : t ∈ x.looksAt ops) : tmpsMeet ops x y = true := by
  unfold tmpsMeet; rw [h1]; simp [h2]
theorem once_val (hcan : Canon C call base true ops ops.size (fun i => ops.toList[i]?) ρs Hs vs) {t : Tmp} {k : Nat} (h : onceT ops t k = true) : ∀ d, k + d ≤ ops.size → (ρs (k + d)).getD t undef = (ρs k).getD t undef := by
  intro d
  induction d with
  | zero => intro _; rfl
  | succ d ih =>
    intro hd
    obtain ⟨o, k1, k2, _⟩ := hcan.step (k + d) (by omega)
    have ho : ops[k + d]? = some o := by simpa using k1
    rw [show k + (d + 1) = k + d + 1 by omega, k2, ← ih (by omega)]
    have hne : o.dst ≠ some t := by
      unfold onceT at h
      rw [List.all_eq_true] at h
      have := h (k + d) (List.mem_range.2 (by omega))
      rw [show ops.getD (k + d) default = o by simp [Array.getD_eq_getD_getElem?, ho]] at this
      have h2 : k + d < k ∨ ¬ o.dst = some t := by simpa using this
      exact h2.resolve_left (by omega)
    cases hdd : o.dst with
    | none => rfl
    | some d' =>
      simp only [putA, List.getD_eq_getElem?_getD]
      rw [List.getElem?_set_ne (fun e => hne (by rw [hdd, e]))]
/-- A block that no operation between two steps writes. -/
theorem still_chain {b lo : Nat} : ∀ d, b < (Hs lo).length → (∀ j, lo ≤ j → j < lo + d → (b < (Hs j).length → (Hs (j + 1))[b]? = (Hs j)[b]? ∧ b < (Hs (j + 1)).length)) → (Hs (lo + d))[b]? = (Hs lo)[b]? ∧ b < (Hs (lo + d)).length := by
  intro d
  induction d with
  | zero => intro h _; exact ⟨rfl, h⟩
  | succ d ih =>
    intro h hs
    obtain ⟨h1, h2⟩ := ih h (fun j j1 j2 => hs j j1 (by omega))
    obtain ⟨h3, h4⟩ := hs (lo + d) (by omega) (by omega) h2
    exact ⟨h3.trans h1, h4⟩
theorem loadA_of {P : Program} {H H' : Heap} {t : TypeId} {x u : Value} (h : loadA P H t x = some u) : ∃ b o, x = .pointer (some ⟨b, o, none⟩) ∧ b < H.length ∧ (H'[b]? = H[b]? → loadA P H' t x = some u) := by
  unfold loadA at h
  split at h
  · rename_i b o
    refine ⟨b, o, rfl, ?_, fun e => ?_⟩
    · obtain ⟨c, hc, _⟩ := Option.bind_eq_some_iff.1 h
      unfold hget at hc
      rcases Nat.lt_or_ge b H.length with h1 | h1
      · exact h1
      · rw [List.getElem?_eq_none h1] at hc; cases hc
    · simp only [loadA]
      rw [← h]
      simp only [hget, e]
  · cases h

/-- One more operation. -/
theorem At.step (hc : CallsOk C nf call) (hk : CallKeeps C call) (hcb : CallBase C call) (hnb : nf ≤ base) (hbl' : base ≤ (Hs 0).length) (hcan : Canon C call base true ops ops.size (fun i => ops.toList[i]?) ρs Hs vs) {ps : List (Tmp × Tmp)} (hd : loose C ops = some ps) (hap : apartT ps (ρs ops.size) = true)
    {listed : Array Bool} {β : Beta} {a : Act} {w : World} {σ τ : Nat} (h : At C nf base ops (ρs 0) Hs vs β0 a0 w0 listed β a w σ τ) {i : Nat} (hi : i ∈ Region.ready .any ops listed) {K : Act → World → Prop}
    (hK : ∀ β' a' w' σ' τ', At C nf base ops (ρs 0) Hs vs β0 a0 w0 (listed.setIfInBounds i true) β' a' w' σ' τ' → K a' w') : wpOp C.P ops Q i K a w := by
  obtain ⟨hl0, o, ho, hedge⟩ := mem_ready.1 hi
  have hin : i < ops.size := (Array.getElem?_eq_some_iff.1 ho).1
  have his : i < listed.size := by rw [h.size]; exact hin
  have hli : listed.getD i false = false := by
    have e : ∀ d, listed.getD i d = listed[i] := fun d => by simp [Array.getD_eq_getD_getElem?, his]
    rw [e] at hl0 ⊢; exact hl0
  have hbits : ∀ m, ((Region.before ops).getD i 0).testBit m = true → listed.getD m false = true := fun m hm => before_ready (S := fun i => listed.getD i false) h.closed ho hedge m hm
  have hnot : ∀ m, m < ops.size → ((Region.before ops).getD m 0).testBit i = true → listed.getD m false = false := by
    intro m hm hb
    cases hlm : listed.getD m false with
    | false => rfl
    | true =>
      have h9 : listed.getD i false = true := before_closed (S := fun i => listed.getD i false) h.closed m hm hlm i hb
      rw [hli] at h9; cases h9
  have hget : ∀ m, m < ops.size → ops[m]? = some (ops.getD m default) := fun m hm => by simp [Array.getD_eq_getD_getElem?, hm]
  have hlens := fun m hm => (canon_len hk hbl' hcan m (Nat.le_of_lt hm)).2 hm
  have hbi := (canon_len hk hbl' hcan i (Nat.le_of_lt hin)).1
  obtain ⟨hρl, hρv⟩ := canon_val hcan i (Nat.le_of_lt hin)
  obtain ⟨p, kp, hput, hev⟩ := hcan.step i hin
  obtain rfl : p = o := by
    have : ops[i]? = some p := by simpa using kp
    rw [ho] at this; exact (Option.some.inj this).symm
  -- who meets this operation
  have hbefore : ∀ m, m < i → (tmpsMeet ops (ops.getD m default) p = true ∨ (isW C (ops.getD m default) = true ∧ isM C p = true ∧ addrT p = none) ∨ (isM C (ops.getD m default) = true ∧ addrT (ops.getD m default) = none ∧ isW C p = true)) → listed.getD m false = true := fun m hm hme => hbits m (strict_edges hd ho hm (hget m (by omega)) hme)
  have hafter : ∀ m, i < m → m < ops.size → (tmpsMeet ops p (ops.getD m default) = true ∨ (isW C p = true ∧ isM C (ops.getD m default) = true ∧ addrT (ops.getD m default) = none) ∨ (isM C p = true ∧ addrT p = none ∧ isW C (ops.getD m default) = true)) → listed.getD m false = false := fun m hm hmn hme => hnot m hmn (strict_edges hd (hget m hmn) hm ho hme)
  have hwrt : ∀ m t, m < ops.size → wrt ops m t → (ops.getD m default).dst = some t := fun m t hm hw => by unfold wrt at hw; rw [hget m hm] at hw; exact hw
  -- what it looks at
  have hlook : ∀ t ∈ p.looksAt ops, t < List.length (ρs i) → VR (restr (max (Hs i).length (Hs σ).length) β) ((ρs i).getD t undef) (a.tmps.getD t undef) := by
    intro t ht hlt
    rw [hρl] at hlt
    have hcg := valS_congr (ρ0 := ρs 0) (vs := vs) (Hs := Hs) (S := fun i => listed.getD i false) (t := t) (Nat.le_of_lt hin) (fun m hm hw => by
      have hdst := hwrt m t hm hw
      rcases Nat.lt_trichotomy m i with hlt2 | rfl | hgt
      · refine ⟨fun _ => hlt2, fun _ => hbefore m hlt2 ?_⟩
        exact .inl (tm_t hdst (.inl ht))
      · exact ⟨fun e => (by rw [hli] at e; cases e), fun e => (by omega)⟩
      · refine ⟨fun e => ?_, fun e => by omega⟩
        have := hafter m hgt hm (.inl (tm_t' hdst ht))
        rw [this] at e; cases e)
    have he := h.env t hlt
    rw [hcg.1, hcg.2] at he
    rw [hρv t hlt]
    exact he.mono (restr_mono (by have := bndS_le (ops := ops) (S := fun _ => true) t i (fun m hm => hlens m (by omega)); omega) β)
  have hx : ∀ x ∈ p.op.operands, VR (restr (max (Hs i).length (Hs σ).length) β) (ev (ρs i) x) (a.eval x) := by
    intro x hxm
    cases x with
    | tmp t =>
      have htm : t ∈ p.looksAt ops := by
        unfold Oper.looksAt
        refine List.mem_append.2 (.inl (List.mem_filterMap.2 ⟨.tmp t, by simpa using hxm, rfl⟩))
      by_cases hlt : t < List.length (ρs i)
      · exact hlook t htm hlt
      · have e : ev (ρs i) (.tmp t) = undef := by
          simp only [ev, List.getD_eq_getElem?_getD]; rw [List.getElem?_eq_none (by simpa using hlt)]; rfl
        rw [e]; exact .any _
    | const v =>
      simp only [ev, Act.eval]
      split
      · rename_i hcc; exact VR.of_C _ hcc
      · exact .any _
    | global g => exact .any _
    | func f => exact .fn rfl rfl (fun i => .any _) (fun i => .any _)
  have hwant : ∀ g, wantA ops p (ρs i) = some g → Region.wanted p (yielded ops a.tmps) = g := fun g hg => want_ok' (by rw [hρl, h.tsz]) hlook hg
  -- the temporaries behind it
  have henv : ∀ (β' : Beta) (v' : Value) (σ' : Nat), Sub β β' → (Hs σ).length ≤ (Hs σ').length → VR (restr (max (Hs (i + 1)).length (Hs σ').length) β') (vs i) v' → ∀ t : Tmp, t < List.length (ρs 0) →
      VR (restr (max (bndS Hs ops (fun m => (listed.setIfInBounds i true).getD m false) ops.size t) (Hs σ').length) β') (valS (ρs 0) ops vs (fun m => (listed.setIfInBounds i true).getD m false) ops.size t) ((a.put p.dst v').tmps.getD t undef) := by
    intro β' v' σ' hsub hσσ hv t ht
    have hvs := valS_set (ρ0 := ρs 0) (vs := vs) (Hs := Hs) (ops := ops) (S := fun i => listed.getD i false) (S' := fun m => (listed.setIfInBounds i true).getD m false) (t := t) hin (set_get listed i his) hli (fun m hm hmn hS hw hw2 => by
      have hdst := hwrt m t hmn hw
      have hdst2 : p.dst = some t := by unfold wrt at hw2; rw [ho] at hw2; exact hw2
      have := hafter m hm hmn (.inl (tm_t hdst2 (.inr hdst)))
      rw [this] at hS; cases hS)
    rw [hvs.1, hvs.2]
    by_cases hw : wrt ops i t
    · rw [if_pos hw, if_pos hw]
      have hdst2 : p.dst = some t := by unfold wrt at hw; rw [ho] at hw; exact hw
      have : (a.put p.dst v').tmps.getD t undef = v' := by
        rw [hdst2]
        simp only [Act.put, Array.getD_eq_getD_getElem?]
        rw [Array.getElem?_setIfInBounds_self_of_lt (by rw [h.tsz]; exact ht)]; rfl
      rw [this]; exact hv
    · rw [if_neg hw, if_neg hw]
      have : (a.put p.dst v').tmps.getD t undef = a.tmps.getD t undef := by
        cases hdd : p.dst with
        | none => rfl
        | some d =>
          have hne : d ≠ t := fun e => hw (by unfold wrt; rw [ho]; simp [hdd, e])
          simp only [Act.put, Array.getD_eq_getD_getElem?]
          rw [Array.getElem?_setIfInBounds_ne hne]
      rw [this]
      exact ((h.env t ht).mono (restr_sub2 hsub _)).mono (restr_mono (by omega) β')
  have hclosed : ∀ (j : Nat) (q : Oper), ops[j]? = some q → (listed.setIfInBounds i true).getD j false = true → ∀ e ∈ q.after, Region.binds .any e = true → (listed.setIfInBounds i true).getD e.on false = true := by
    intro j q hq hj e he hb
    refine getD_set_true ?_
    by_cases hji : i = j
    · subst hji; rw [ho] at hq; cases hq; exact hedge e he hb
    · rw [getD_set_ne false hji] at hj; exact h.closed j q hq hj e he hb
  have hput' : ∀ v', (a.put p.dst v').tmps.size = List.length (ρs 0) ∧ (a.put p.dst v').defers = a0.defers := fun v' => by
    rw [← h.tsz, ← h.defers]; cases p.dst <;> simp [Act.put]
  have hset : ∀ m, listed.getD m false = true → (listed.setIfInBounds i true).getD m false = true := fun m hm => getD_set_true hm
  have hself : (listed.setIfInBounds i true).getD i false = true := by rw [set_get listed i his]; simp
  have hother : ∀ m, m ≠ i → (listed.setIfInBounds i true).getD m false = listed.getD m false := fun m hm => getD_set_ne false (fun e => hm e.symm)
  -- where it stands between those that turn what is there
  have hMlt : isM C p = true → addrT p = none → isW C p = false → σ ≤ i ∧ i < τ := by
    intro hM hA hW
    constructor
    · rcases h.last with h0 | ⟨q, h1, h2, h3⟩
      · omega
      · rcases Nat.lt_or_ge i σ with hlt | hge
        · exfalso
          have hσn : σ - 1 < ops.size := (Array.getElem?_eq_some_iff.1 h1).1
          have hne : i ≠ σ - 1 := fun e => by rw [e] at hli; rw [hli] at h3; cases h3
          have hq : ops.getD (σ - 1) default = q := by simp [Array.getD_eq_getD_getElem?, h1]
          have := hafter (σ - 1) (by omega) hσn (by rw [hq]; exact .inr (.inr ⟨hM, hA, h2⟩))
          rw [this] at h3; cases h3
        · exact hge
    · rcases Nat.lt_or_ge i τ with hlt | hge
      · exact hlt
      · exfalso
        have hτn : τ < ops.size := by omega
        have hτ := h.tl _ (hget τ hτn)
        by_cases e : i = τ
        · subst e
          have := h.tl p ho
          rw [hW] at this; cases this
        · have h4 := hbefore τ (by omega) (.inr (.inl ⟨hτ, hM, hA⟩))
          have h5 := h.tm τ _ (Nat.le_refl _) (hget τ hτn) (isM_of_W hτ) (addrT_W hτ)
          rw [h5] at h4; cases h4
  have hWeq : isW C p = true → i = τ := by
    intro hW
    rcases Nat.lt_trichotomy i τ with hlt | he | hgt
    · exfalso
      rcases Nat.lt_or_ge i σ with hs | hs
      · have := h.tw i p hs ho hW
        rw [hli] at this; cases this
      · have := h.quiet i p hs hlt ho
        rw [hW] at this; cases this
    · exact he
    · exfalso
      have hτn : τ < ops.size := by omega
      have hτ := h.tl _ (hget τ hτn)
      have h4 := hbefore τ hgt (.inr (.inl ⟨hτ, isM_of_W hW, addrT_W hW⟩))
      have h5 := h.tm τ _ (Nat.le_refl _) (hget τ hτn) (isM_of_W hτ) (addrT_W hτ)
      rw [h5] at h4; cases h4
  have hdom0 : ∀ b x, β b = some x → b < (Hs 0).length ∨ ∃ j, j < ops.size ∧ (listed.setIfInBounds i true).getD j false = true ∧ (Hs j).length ≤ b ∧ b < (Hs (j + 1)).length ∧ ∃ o, ops[j]? = some o ∧ isM C o = true ∧ addrT o = none := fun b x hb => (h.dom b x hb).imp id fun ⟨j, j1, j2, j3⟩ => ⟨j, j1, hset j j2, j3⟩
  -- nothing is made, nothing turned
  have quietStep : ∀ v', isW C p = false → Hs (i + 1) = Hs i → VR (restr (max (Hs (i + 1)).length (Hs σ).length) β) (vs i) v' → K (a.put p.dst v') w := by
    intro v' hW hH hv
    refine hK β _ w σ τ ⟨by rw [Array.size_setIfInBounds]; exact h.size, hclosed, (hput' v').1, henv β v' σ (Sub.refl β) (Nat.le_refl _) hv, h.post, h.st, h.tn, h.quiet, h.last.imp id fun ⟨q, q1, q2, q3⟩ => ⟨q, q1, q2, hset _ q3⟩, fun j q j1 j2 j3 => hset j (h.tw j q j1 j2 j3), h.tl, fun j q hj hq hM hA => ?_, h.fam, hdom0, (hput' v').2⟩
    by_cases hji : j = i
    · subst hji
      rw [ho] at hq; cases hq
      have := (hMlt hM hA hW).2; omega
    · rw [hother j hji]; exact h.tm j q hj hq hM hA
  -- it turns what is there
  have turnStep : ∀ v' β' w', isW C p = true → VR β' (vs i) v' → Post nf base β (Hs τ) w β' (Hs (i + 1)) w' → K (a.put p.dst v') w' := by
    intro v' β' w' hW hv hp
    have hiτ := hWeq hW
    obtain ⟨τ', t1, t2, t3, t4⟩ := next_W C ops (i + 1) (by omega)
    have hpre : ∀ m, i + 1 ≤ m → m ≤ τ' → ∃ F, Hs m = Hs (i + 1) ++ F := by
      intro m h1 h2
      have := prefix_chain (ops := ops) (canon_prefix hk hbl' hcan) (m - (i + 1)) (i + 1) (by omega) (fun j q j1 j2 hq => t3 j q j1 (by omega) hq)
      rwa [Nat.add_sub_cancel' h1] at this
    have hsub : Sub β β' := hp.sub h.post.sim
    refine hK β' _ w' (i + 1) τ' ⟨by rw [Array.size_setIfInBounds]; exact h.size, hclosed, (hput' v').1, henv β' v' (i + 1) hsub (len_chain (ops := ops) hlens (by have := h.st; omega) (by omega)) (by rw [Nat.max_self]; exact hv.mono (restr_self hp.sim)), ?_, t1, t2, t3, .inr ⟨p, by simpa using ho, hW, by simpa using hself⟩, fun j q j1 j2 j3 => ?_, t4, fun j q hj hq hM hA => ?_, fun m m1 m2 => ?_, fun b x hb => ?_, (hput' v').2⟩
    · obtain ⟨F, hF⟩ := hpre τ' t1 (Nat.le_refl _)
      rw [hF]
      exact (h.post.trans hp).extend F
    · by_cases hji : j = i
      · subst hji; exact hself
      · refine hset j ?_
        rcases Nat.lt_or_ge j σ with hs | hs
        · exact h.tw j q hs j2 j3
        · have := h.quiet j q hs (by omega) j2
          rw [j3] at this; cases this
    · rw [hother j (by omega)]; exact h.tm j q (by omega) hq hM hA
    · obtain ⟨F, hF⟩ := hpre m m1 m2
      rw [hF]
      exact (hp.sim.extend F).congr (restr_ge hp.sim (by simp))
    · by_cases hb2 : b < (Hs τ).length
      · rw [hp.old b hb2] at hb
        exact hdom0 b x hb
      · have := hp.sim.dom b x hb
        exact .inr ⟨i, hin, hself, by rw [hiτ]; omega, this, p, ho, isM_of_W hW, addrT_W hW⟩
  unfold wpOp
  rw [ho]
  simp only
  rcases hev with ⟨hg, hev⟩ | ⟨hg, hvu, hH⟩
  · rw [if_pos (hwant true hg)]
    left
    by_cases hM : isM C p = true
    · by_cases hW : isW C p = true
      · -- it turns what is there
        have hiτ := hWeq hW
        have hx' : ∀ x ∈ p.op.operands, VR β (ev (ρs i) x) (a.eval x) := fun x hxm => (hx x hxm).mono (restr_sub _ _)
        have hs := h.post.sim
        rw [← hiτ] at hs
        refine evalOp_does (base := base) hc hs hnb hbi hx' hev K Q fun β' w' v' hv hp => ?_
        exact turnStep v' β' w' hW hv (by rw [← hiτ]; exact hp)
      · -- it makes memory or reads it
        have hW' : isW C p = false := by simpa using hW
        cases hA : addrT p with
        | some x =>
          -- a load
          obtain ⟨t, hop⟩ : ∃ t, p.op = .load t (.tmp x) := by
            unfold addrT at hA
            split at hA
            · rename_i t y hop; cases hA; exact ⟨t, hop⟩
            · cases hA
          have hld : loadA C.P (Hs i) t ((ρs i).getD x undef) = some (vs i) ∧ Hs (i + 1) = Hs i := by
            unfold evalOp at hev
            rw [hop] at hev
            simp only at hev
            unfold valH at hev
            obtain ⟨v, h1, h2⟩ := Option.map_eq_some_iff.1 hev
            rw [Prod.mk.injEq] at h2
            rw [h2.1] at h1
            exact ⟨h1, h2.2.symm⟩
          obtain ⟨hld, hH⟩ := hld
          have hxx : VR (restr (max (Hs i).length (Hs σ).length) β) ((ρs i).getD x undef) (a.eval (.tmp x)) := hx (.tmp x) (by rw [hop]; simp [Op.operands])
          have hσi : i < σ → (Hs i).length ≤ (Hs σ).length := fun e => len_chain (ops := ops) hlens (Nat.le_of_lt e) (Nat.le_trans h.st h.tn)
          have hmi : ∃ m, σ ≤ m ∧ m ≤ τ ∧ (Hs m).length ≤ max (Hs (i + 1)).length (Hs σ).length ∧ VR (restr (Hs m).length β) ((ρs i).getD x undef) (a.eval (.tmp x)) ∧ loadA C.P (Hs m) t ((ρs i).getD x undef) = some (vs i) := by
            have hw : ∀ {j : Nat} {q : Oper} {y : Tmp} {b of : Nat}, ops[j]? = some q → (ρs i).getD x undef = .pointer (some ⟨b, of, none⟩) → (x, y) ∈ ps → tgtT q = some y → onceT ops x i = true → onceT ops y j = true → b < (Hs j).length → (Hs (j + 1))[b]? = (Hs j)[b]? := by
              intro j q y b of hq hb hps ht o1 o2 hbl
              have hjn := (Array.getElem?_eq_some_iff.1 hq).1
              obtain ⟨q', k1, k2, k3⟩ := hcan.step j hjn
              obtain rfl : q' = q := by
                have : ops[j]? = some q' := by simpa using k1
                rw [hq] at this; exact (Option.some.inj this).symm
              have e1 : (ρs ops.size).getD x undef = (ρs i).getD x undef := by
                have := once_val hcan o1 (ops.size - i) (by omega)
                rwa [Nat.add_sub_cancel' (Nat.le_of_lt hin)] at this
              have e2 : (ρs ops.size).getD y undef = (ρs j).getD y undef := by
                have := once_val hcan o2 (ops.size - j) (by omega)
                rwa [Nat.add_sub_cancel' (Nat.le_of_lt hjn)] at this
              rcases k3 with ⟨_, k4⟩ | ⟨_, _, k4⟩
              · unfold apartT at hap
                rw [List.all_eq_true] at hap
                have := hap (x, y) hps
                simp only [e1, e2, hb] at this
                exact evalOp_tgt ht k4 this hbl
              · rw [k4]
            rcases Nat.lt_or_ge i σ with hlt | hge
            · refine ⟨σ, Nat.le_refl _, h.st, by omega, by have := hσi hlt; rwa [Nat.max_eq_right this] at hxx, ?_⟩
              obtain ⟨b, of, hb, hbl, hmv⟩ := loadA_of (H' := Hs σ) hld
              refine hmv ?_
              have := still_chain (Hs := Hs) (b := b) (lo := i) (σ - i) hbl fun j j1 j2 j3 => ?_
              · rw [Nat.add_sub_cancel' (Nat.le_of_lt hlt)] at this; exact this.1
              · have hjn : j < ops.size := by have := h.st; have := h.tn; omega
                refine ⟨?_, Nat.lt_of_lt_of_le j3 (hlens j hjn)⟩
                cases hjw : isW C (ops.getD j default) with
                | false =>
                  obtain ⟨F, hF⟩ := canon_prefix hk hbl' hcan j _ (hget j hjn) hjw
                  rw [hF]; exact List.getElem?_append_left j3
                | true =>
                  have hji : j ≠ i := fun e => by
                    subst e
                    have := hget j hjn
                    rw [ho] at this
                    rw [← Option.some.inj this, hW'] at hjw; cases hjw
                  have hlj := h.tw j _ (by omega) (hget j hjn) hjw
                  rcases (draw_edges hd j _ (hget j hjn)).2 i p (by omega) ho (meets_W' hM hjw) with hbit | ⟨⟨x', y⟩, hps, hl⟩
                  · have := hnot j hjn hbit
                    rw [this] at hlj; cases hlj
                  · rcases (loosePair_spec hl).2 with ⟨f1, f2, f3, f4⟩ | ⟨f1, _⟩
                    · rw [hA] at f1; cases f1
                      exact hw (hget j hjn) hb hps f2 f3 f4 j3
                    · rw [tgtT_load hA] at f1; cases f1
            · rcases Nat.lt_or_ge τ i with hgt | hle
              · obtain ⟨b, of, hb, hbl, hmv⟩ := loadA_of (H' := Hs τ) hld
                have hτi := len_chain (ops := ops) hlens (Nat.le_of_lt hgt) (Nat.le_of_lt hin)
                have hbτ : b < (Hs τ).length := by
                  rw [hb] at hxx
                  obtain ⟨z, hz⟩ := hxx.blk
                  unfold restr at hz
                  split at hz
                  · rcases h.dom b z hz with h5 | ⟨j, j1, j2, j3, j4, q, q1, q2, q3⟩
                    · have := len_chain (ops := ops) hlens (Nat.zero_le τ) h.tn; omega
                    · rcases Nat.lt_or_ge j τ with hlt | hge2
                      · have := len_chain (ops := ops) hlens (show j + 1 ≤ τ by omega) h.tn; omega
                      · have := h.tm j q hge2 q1 q2 q3
                        rw [this] at j2; cases j2
                  · cases hz
                refine ⟨τ, h.st, Nat.le_refl _, by rw [hH]; omega, ?_, ?_⟩
                · rw [hb] at hxx ⊢
                  exact hxx.ptr_restr hbτ
                · refine hmv ?_
                  have := still_chain (Hs := Hs) (b := b) (lo := τ) (i - τ) hbτ fun j j1 j2 j3 => ?_
                  · rw [Nat.add_sub_cancel' (Nat.le_of_lt hgt)] at this; exact this.1.symm
                  · have hjn : j < ops.size := by omega
                    refine ⟨?_, Nat.lt_of_lt_of_le j3 (hlens j hjn)⟩
                    cases hjw : isW C (ops.getD j default) with
                    | false =>
                      obtain ⟨F, hF⟩ := canon_prefix hk hbl' hcan j _ (hget j hjn) hjw
                      rw [hF]; exact List.getElem?_append_left j3
                    | true =>
                      have hlj := h.tm j _ j1 (hget j hjn) (isM_of_W hjw) (addrT_W hjw)
                      rcases (draw_edges hd i p ho).2 j _ (by omega) (hget j hjn) (meets_W hjw hM) with hbit | ⟨⟨x', y⟩, hps, hl⟩
                      · have := hbits j hbit
                        rw [hlj] at this; cases this
                      · rcases (loosePair_spec hl).2 with ⟨f1, _⟩ | ⟨f1, f2, f3, f4⟩
                        · rw [addrT_W hjw] at f1; cases f1
                        · rw [hA] at f2; cases f2
                          exact hw (hget j hjn) hb hps f1 f4 f3 j3
              · exact ⟨i, hge, hle, by rw [hH]; omega, by have := len_chain (ops := ops) hlens hge (Nat.le_of_lt hin); rwa [Nat.max_eq_left this] at hxx, hld⟩
          obtain ⟨m, m1, m2, m3, m4, m5⟩ := hmi
          obtain ⟨u', u1, u2⟩ := load_does (P := C.P) (h.fam m m1 m2) m4 m5
          have := quietStep u' hW' hH (u2.mono (restr_mono m3 β))
          unfold Oper.wp
          rw [show (execOp a.eval p).run C.P w = .ok (.value u') w from by unfold execOp; simp only [hop]; exact run_v _ u1]
          exact this
        | none =>
        obtain ⟨s1, s2⟩ := hMlt hM hA hW'
        have hx : ∀ x ∈ p.op.operands, VR (restr (Hs i).length β) (ev (ρs i) x) (a.eval x) := fun x hxm => by
          have := hx x hxm
          rwa [Nat.max_eq_left (len_chain (ops := ops) hlens s1 (Nat.le_of_lt hin))] at this
        have hs := h.fam i s1 (Nat.le_of_lt s2)
        rw [evalOp_base hcb hW' base (Hs i).length] at hev
        refine evalOp_does (base := (Hs i).length) hc hs (by omega) (Nat.le_refl _) hx hev K Q fun β' w' v' hv hp => ?_
        obtain ⟨F1, hF1⟩ := canon_prefix hk hbl' hcan i p ho hW'
        have hfr : ∀ B, B < w.heap.size → w'.heap[B]? = w.heap[B]? := fun B hB => hp.frame B hB (fun b s N k1 k2 k3 => absurd k2.lt (by omega))
        have hnew : ∀ b B s N, (Hs i).length ≤ b → live (Hs i ++ F1) b → β' b = some (B, s, N) → w.heap.size ≤ B := by
          intro b B s N k1 k2 k3
          rcases hp.new b B s N k1 (by rw [hF1]; exact k2) k3 with h5 | ⟨b0, s0, N0, e1, e2, _, _⟩
          · exact h5
          · exact absurd e2.lt (by omega)
        have hnone : ∀ b, (Hs i).length ≤ b → b < (Hs (i + 1)).length → β b = none := by
          intro b b1 b2
          cases hb : β b with
          | none => rfl
          | some x =>
            exfalso
            rcases h.dom b x hb with h5 | ⟨j, j1, j2, j3, j4, _⟩
            · have := len_chain (ops := ops) hlens (Nat.zero_le i) (Nat.le_of_lt hin); omega
            · rcases Nat.lt_trichotomy j i with hlt | rfl | hgt
              · have := len_chain (ops := ops) hlens (show j + 1 ≤ i by omega) (Nat.le_of_lt hin); omega
              · rw [hli] at j2; cases j2
              · have := len_chain (ops := ops) hlens (show i + 1 ≤ j by omega) (Nat.le_of_lt j1); omega
        have hold : ∀ b, b < (Hs i).length → β' b = β b := fun b hb => by rw [hp.old b hb]; unfold restr; rw [if_pos hb]
        have hsub : Sub β (merge (Hs (i + 1)).length β' β) := fun b x hb => by
          unfold merge
          split
          · rename_i hb2
            by_cases hb3 : b < (Hs i).length
            · rw [hold b hb3]; exact hb
            · rw [hnone b (by omega) hb2] at hb; cases hb
          · exact hb
        have hpre : ∀ m, i + 1 ≤ m → m ≤ τ → ∃ F, Hs m = Hs (i + 1) ++ F := by
          intro m h1 h2
          have := prefix_chain (ops := ops) (canon_prefix hk hbl' hcan) (m - (i + 1)) (i + 1) (by have := h.tn; omega) (fun j q j1 j2 hq => h.quiet j q (by omega) (by omega) hq)
          rwa [Nat.add_sub_cancel' h1] at this
        have hfam : ∀ m, σ ≤ m → m ≤ τ → Sim nf (restr (Hs m).length (merge (Hs (i + 1)).length β' β)) (Hs m) w' := by
          intro m m1 m2
          rcases Nat.lt_or_ge i m with hgt | hle
          · obtain ⟨F2, hF2⟩ := hpre m (by omega) m2
            have hsm := h.fam m m1 m2
            have hmm : (Hs (i + 1)).length ≤ (Hs m).length := by rw [hF2]; simp
            have e0 : Hs m = Hs i ++ F1 ++ F2 := by rw [hF2, hF1]
            rw [e0] at hsm
            have hp1 : Sim nf β' (Hs i ++ F1) w' := by rw [← hF1]; exact hp.sim
            have := Sim.merge hsm hp1 (fun b hb => by rw [hold b hb]; unfold restr; rw [if_pos (by simp; omega)]) (fun b b1 b2 => by
              unfold restr
              rw [if_pos (by simp at b2 ⊢; omega)]
              exact hnone b b1 (by rw [hF1]; exact b2)) hp.size hfr hnew
            rw [e0]
            refine this.congr fun b => ?_
            unfold restr merge
            rw [hF1]
            by_cases hb : b < (Hs i ++ F1).length
            · rw [if_pos (by simp at hb ⊢; omega), if_pos hb]
              simp only [if_pos hb]
            · simp only [if_neg hb]
          · have hsm := h.fam m m1 m2
            refine (hsm.still hp.size hfr).congr fun b => ?_
            have hmi : (Hs m).length ≤ (Hs i).length := len_chain (ops := ops) hlens hle (Nat.le_of_lt hin)
            unfold restr merge
            by_cases hb : b < (Hs m).length
            · rw [if_pos hb, if_pos hb, if_pos (by have := hlens i hin; omega)]
              exact hold b (by omega)
            · rw [if_neg hb, if_neg hb]
        have hdm : ∀ b x, merge (Hs (i + 1)).length β' β b = some x → b < (Hs 0).length ∨ ∃ j, j < ops.size ∧ (listed.setIfInBounds i true).getD j false = true ∧ (Hs j).length ≤ b ∧ b < (Hs (j + 1)).length ∧ ∃ o, ops[j]? = some o ∧ isM C o = true ∧ addrT o = none := by
          intro b x hb
          unfold merge at hb
          split at hb
          · rename_i hb2
            by_cases hb3 : b < (Hs i).length
            · rw [hold b hb3] at hb; exact hdom0 b x hb
            · exact .inr ⟨i, hin, hself, by omega, hb2, p, ho, hM, hA⟩
          · exact hdom0 b x hb
        have hτi : (Hs (i + 1)).length ≤ (Hs τ).length := len_chain (ops := ops) hlens (by omega) h.tn
        obtain ⟨F2, hF2⟩ := hpre τ (by omega) (Nat.le_refl _)
        refine hK (merge (Hs (i + 1)).length β' β) _ w' σ τ ⟨by rw [Array.size_setIfInBounds]; exact h.size, hclosed, (hput' v').1, henv _ v' σ hsub (Nat.le_refl _) (hv.mono fun b x hb => ?_), ?_, h.st, h.tn, h.quiet, h.last.imp id fun ⟨q, q1, q2, q3⟩ => ⟨q, q1, q2, hset _ q3⟩, fun j q j1 j2 j3 => hset j (h.tw j q j1 j2 j3), h.tl, fun j q hj hq hM hA => ?_, hfam, hdm, (hput' v').2⟩
        · have hb2 : b < (Hs (i + 1)).length := hp.sim.dom b x hb
          unfold restr merge
          rw [if_pos (by omega), if_pos hb2]; exact hb
        · have hsτ := (hfam τ h.st (Nat.le_refl _))
          have hsim : Sim nf (merge (Hs (i + 1)).length β' β) (Hs τ) w' := hsτ.congr fun b => by
            unfold restr
            split
            · rfl
            · rename_i hb
              unfold merge
              rw [if_neg (by omega)]
              cases hbb : β b with
              | none => rfl
              | some x => have := h.post.sim.dom b x hbb; omega
          refine ⟨hsim, h.post.len, fun b hb => ?_, hp.os.trans h.post.os, hp.tape.trans h.post.tape, hp.output.trans h.post.output, Nat.le_trans h.post.size hp.size, fun B hB hno => (hfr B (Nat.lt_of_lt_of_le hB h.post.size)).trans (h.post.frame B hB hno), fun b B s N b1 b2 b3 => ?_, h.post.dead⟩
          · have h0i : (Hs 0).length ≤ (Hs i).length := len_chain (ops := ops) hlens (Nat.zero_le i) (Nat.le_of_lt hin)
            unfold merge
            rw [if_pos (by have := hlens i hin; omega), hold b (by omega)]
            exact h.post.old b hb
          · unfold merge at b3
            by_cases hb2 : b < (Hs (i + 1)).length
            · rw [if_pos hb2] at b3
              by_cases hb3 : b < (Hs i).length
              · rw [hold b hb3] at b3; exact h.post.new b B s N b1 b2 b3
              · refine .inl (Nat.le_trans h.post.size (hnew b B s N (by omega) ?_ b3))
                rw [hF2, hF1] at b2
                exact live_of_left (by rw [← hF1]; exact hb2) b2
            · rw [if_neg hb2] at b3; exact h.post.new b B s N b1 b2 b3
        · by_cases hji : j = i
          · omega
          · rw [hother j hji]; exact h.tm j q hj hq hM hA
    · -- no memory
      have hM' : isM C p = false := by simpa using hM
      have hW' : isW C p = false := by
        cases hw : isW C p with
        | false => rfl
        | true => rw [isM_of_W hw] at hM'; cases hM'
      obtain ⟨v', r1, r2, r3⟩ := evalOp_pure hM' hx hev w
      unfold Oper.wp
      rw [r1]
      exact quietStep v' hW' r3 (by rw [show Hs (i + 1) = Hs i from r3]; exact r2)
  · rw [if_neg (by rw [hwant false hg]; decide)]
    by_cases hW : isW C p = true
    · have hiτ := hWeq hW
      refine turnStep undef β w hW (by rw [hvu]; exact .skip) ?_
      rw [hH, hiτ]
      exact .refl h.post.sim
    · exact quietStep undef (by simpa using hW) hH (by rw [hvu]; exact .skip)
end
end Go.Am

