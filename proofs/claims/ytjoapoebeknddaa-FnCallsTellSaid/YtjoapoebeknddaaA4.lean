/- The small machine: loops, calls, and steps for the simplifier. No conditions. -/
import Derived.Test.YtjoapoebeknddaaA3
set_option linter.unusedSimpArgs false
set_option linter.unusedVariables false
/- A small machine over lists in the place of the memory: regions, code, calls. No conditions. -/
namespace Go.Am
set_option linter.unusedSimpArgs false
set_option linter.unusedVariables false
section
variable {C : Cfg} {nf base : Nat} {call : Nat → CallF} {ops : Array Oper} {ρs : Nat → Env} {Hs : Nat → Heap} {vs : Nat → Value} {β0 : Beta} {a0 : Act} {w0 : World} {Q : Exit → Act → World → Prop}

theorem ready_all {ps : List (Tmp × Tmp)} (hd : loose C ops = some ps) {listed : Array Bool} (hs : listed.size = ops.size) (hr : Region.ready .any ops listed = []) : ∀ j, j < ops.size → listed.getD j false = true := by
  intro j
  induction j using Nat.strongRecOn with
  | _ j ih =>
    intro hj
    cases hl : listed.getD j false with
    | true => rfl
    | false =>
      exfalso
      have ho : ops[j]? = some ops[j] := by simp [hj]
      have : j ∈ Region.ready .any ops listed := mem_ready.2 ⟨by
        have e : ∀ d, listed.getD j d = listed[j]'(by omega) := fun d => by simp [Array.getD_eq_getD_getElem?, hs, hj]
        rw [e] at hl ⊢; exact hl, ops[j], ho, fun e he hb => by
          have := (draw_edges hd j _ ho).1 e he hb
          exact ih e.on this (by omega)⟩
      rw [hr] at this; cases this
theorem left_pos {listed : Array Bool} {n j : Nat} (hj : j < n) (hl : listed.getD j false = false) : 0 < left listed n := by
  unfold left
  exact List.length_pos_of_mem (a := j) (List.mem_filter.2 ⟨List.mem_range.2 hj, by rw [hl]; rfl⟩)

theorem draw_any (hc : CallsOk C nf call) (hk : CallKeeps C call) (hcb : CallBase C call) (hnb : nf ≤ base) (hbl : base ≤ (Hs 0).length) (hcan : Canon C call base true ops ops.size (fun i => ops.toList[i]?) ρs Hs vs) {ps : List (Tmp × Tmp)} (hd : loose C ops = some ps) (hap : apartT ps (ρs ops.size) = true)
    (hQ : ∀ β a w, Post nf base β0 (Hs 0) w0 β (Hs ops.size) w → ER β (ρs ops.size) a.tmps → a.defers = a0.defers → Q .normal a w) :
    ∀ (fuel : Nat) (listed : Array Bool) (β : Beta) (a : Act) (w : World) (σ τ : Nat), At C nf base ops (ρs 0) Hs vs β0 a0 w0 listed β a w σ τ → left listed ops.size ≤ fuel → wpAny C.P .any ops Q fuel listed a w := by
  have done : ∀ (listed : Array Bool) (β : Beta) (a : Act) (w : World) (σ τ : Nat), At C nf base ops (ρs 0) Hs vs β0 a0 w0 listed β a w σ τ → Region.ready .any ops listed = [] → Q .normal a w := by
    intro listed β a w σ τ h hr
    have hall := ready_all hd h.size hr
    have hτ : τ = ops.size := by
      rcases Nat.lt_or_ge τ ops.size with hlt | hge
      · exfalso
        have ho : ops[τ]? = some ops[τ] := by simp [hlt]
        have := h.tm τ _ (Nat.le_refl _) ho (isM_of_W (h.tl _ ho)) (addrT_W (h.tl _ ho))
        rw [hall τ hlt] at this; cases this
      · have := h.tn; omega
    subst hτ
    obtain ⟨hρl, hρv⟩ := canon_val hcan ops.size (Nat.le_refl _)
    refine hQ β a w h.post (VRL.of_forall (by rw [hρl]; simpa using h.tsz.symm) fun t ht => ?_) h.defers
    rw [hρl] at ht
    have he := h.env t ht
    have hcg := valS_congr (ρ0 := ρs 0) (ops := ops) (vs := vs) (Hs := Hs) (S := fun i => listed.getD i false) (t := t) (Nat.le_refl ops.size) (fun m hm _ => ⟨fun _ => hm, fun _ => hall m hm⟩)
    rw [hcg.1, ← hρv t ht] at he
    have := he.mono (restr_sub _ _)
    simpa [List.getD_eq_getElem?_getD, Array.getD_eq_getD_getElem?] using this
  intro fuel
  induction fuel with
  | zero =>
    intro listed β a w σ τ h hl
    have hr : Region.ready .any ops listed = [] := by
      cases hr : Region.ready .any ops listed with
      | nil => rfl
      | cons j r =>
        exfalso
        have hj : j ∈ Region.ready .any ops listed := by rw [hr]; exact List.mem_cons_self
        obtain ⟨k1, o, k2, _⟩ := mem_ready.1 hj
        have hjn := (Array.getElem?_eq_some_iff.1 k2).1
        have hjs : j < listed.size := by rw [h.size]; exact hjn
        have hlf : listed.getD j false = false := by
          have e : ∀ d, listed.getD j d = listed[j] := fun d => by simp [Array.getD_eq_getD_getElem?, hjs]
          rw [e] at k1 ⊢; exact k1
        have := left_pos hjn hlf
        omega
    exact ⟨hr, done listed β a w σ τ h hr⟩
  | succ fuel ih =>
    intro listed β a w σ τ h hl
    refine ⟨done listed β a w σ τ h, fun i hi => ?_⟩
    obtain ⟨k1, o, k2, _⟩ := mem_ready.1 hi
    have hin := (Array.getElem?_eq_some_iff.1 k2).1
    have his : i < listed.size := by rw [h.size]; exact hin
    have hlf : listed.getD i false = false := by
      have e : ∀ d, listed.getD i d = listed[i] := fun d => by simp [Array.getD_eq_getD_getElem?, his]
      rw [e] at k1 ⊢; exact k1
    have := left_set listed i ops.size hin his hlf
    exact h.step hc hk hcb hnb hbl hcan hd hap hi fun β' a' w' σ' τ' h' => ih _ β' a' w' σ' τ' h' (by omega)

theorem region_does (hm : C.P.follows .mixedOrders = true) (hc : CallsOk C nf call) (hk : CallKeeps C call) (hcb : CallBase C call) (hnb : nf ≤ base) {ρ ρ' : Env} {H H' : Heap} {β : Beta} {a : Act} {w : World} {id : Nat} {dr : Bool}
    (hbl : base ≤ H.length) (hs : Sim nf β H w) (he : ER β ρ a.tmps) (hd : dr = true → ∃ ps, loose C ops = some ps ∧ apartT ps ρ' = true) (hr : runOps C call base dr ops ops.toList ρ H = some (ρ', H'))
    (hQ : ∀ β' w' a', Post nf base β H w β' H' w' → ER β' ρ' a'.tmps → a'.defers = a.defers → Q .normal a' w') : (Code.region id ops dr).wp C.P Q a w := by
  cases dr with
  | false =>
    refine wp_region (runOps_does hc hnb hk ops.toList (List.range ops.size) ρ H β a w ρ' H' ?_ hs hbl he hr hQ)
    refine List.ext_getElem (by simp) fun i h1 h2 => ?_
    simp at h1
    simp [h1]
  | true =>
    obtain ⟨ps, hd2, hap⟩ := hd rfl
    obtain ⟨ρs, Hs, vs, e1, e2, e3, e4, hcan⟩ := canon_of ops.toList ρ H ρ' H' hr
    rw [Array.length_toList] at e3 e4 hcan
    subst e1 e2 e3 e4
    refine wp_region_any hm ?_
    have hdr := Post.drew (nf := nf) (base := base) hs
    have hs' : Sim nf β (Hs 0) w.drew := hdr.sim
    obtain ⟨τ, t1, t2, t3, t4⟩ := next_W C ops 0 (Nat.zero_le _)
    have hpre : ∀ m, m ≤ τ → ∃ F, Hs m = Hs 0 ++ F := by
      intro m h2
      have := prefix_chain (ops := ops) (canon_prefix hk hbl hcan) m 0 (by omega) (fun j q j1 j2 hq => t3 j q j1 (by omega) hq)
      rwa [Nat.zero_add] at this
    have hno : ∀ i, (Array.replicate ops.size false).getD i false = false := fun i => by
      simp only [Array.getD_eq_getD_getElem?, Array.getElem?_replicate]; split <;> rfl
    have hval : ∀ (n : Nat) (t : Tmp), valS (ρs 0) ops vs (fun i => (Array.replicate ops.size false).getD i false) n t = (ρs 0).getD t undef ∧ bndS Hs ops (fun i => (Array.replicate ops.size false).getD i false) n t = (Hs 0).length := by
      intro n t
      induction n with
      | zero => exact ⟨rfl, rfl⟩
      | succ n ih =>
        unfold valS bndS
        rw [if_neg (by rw [hno]; simp), if_neg (by rw [hno]; simp)]
        exact ih
    refine draw_any hc hk hcb hnb hbl hcan hd2 hap (β0 := β) (a0 := a) (w0 := w) (fun β' a' w' h1 h2 h3 => hQ β' w' a' h1 h2 h3) ops.size (Array.replicate ops.size false) β a w.drew 0 τ ⟨by simp, (fun j o _ hj => by rw [hno] at hj; cases hj), he.len.symm, fun t ht => ?_, ?_, Nat.zero_le _, t2, t3, .inl rfl, fun j o hj => absurd hj (Nat.not_lt_zero _), t4, fun i o _ _ _ _ => hno i, fun m _ m2 => ?_, fun b x hb => .inl (hs.dom b x hb), rfl⟩ ?_
    · rw [(hval _ t).1, (hval _ t).2, Nat.max_self]
      have := he.2 t
      have h2 := this.mono (restr_self hs)
      simpa [List.getD_eq_getElem?_getD, Array.getD_eq_getD_getElem?] using h2
    · obtain ⟨F, hF⟩ := hpre τ (Nat.le_refl _)
      rw [hF]; exact hdr.extend F
    · obtain ⟨F, hF⟩ := hpre m m2
      rw [hF]; exact (hs'.extend F).congr (restr_ge hs' (by simp))
    · unfold left
      exact Nat.le_trans (List.length_filter_le _ _) (by simp)

/-! ### code -/
theorem wipe_ER : ∀ (ks : List Tmp) {β : Beta} {ρ : Env} {ts : Array Value}, ER β ρ ts → ER β (wipe ks ρ) ts := by
  intro ks
  induction ks with
  | nil => intro β ρ ts h; exact h
  | cons k ks ih =>
    intro β ρ ts h
    refine ih (ρ := ρ.set k undef) ⟨by simpa using h.1, fun i => ?_⟩
    simp only [List.getD_eq_getElem?_getD, List.getElem?_set]
    by_cases hk : k = i
    · rw [if_pos hk]
      split
      · exact .any _
      · exact .any _
    · rw [if_neg hk]
      have := h.2 i
      simpa [List.getD_eq_getElem?_getD] using this

def exOf : Ex → Exit
  | .normal => .normal
  | .exit i => .exit i
  | .ret => .ret

/-- What a piece of code comes to. -/
def CodeOk (C : Cfg) (nf base : Nat) (c : Code) (f : Env → Heap → Option (Ex × Env × Heap)) : Prop :=
  ∀ (ρ : Env) (H : Heap) (x : Ex) (ρ' : Env) (H' : Heap), base ≤ H.length → f ρ H = some (x, ρ', H') → base ≤ H'.length ∧ ∀ (β : Beta) (a : Act) (w : World) (Q : Exit → Act → World → Prop), Sim nf β H w → ER β ρ a.tmps →
    (∀ β' w' a', Post nf base β H w β' H' w' → ER β' ρ' a'.tmps → a'.defers = a.defers → Q (exOf x) a' w') → c.wp C.P Q a w

theorem iter_does {c : Code} {f : Env → Heap → Option (Ex × Env × Heap)} (hnb : nf ≤ base) (hf : CodeOk C nf base c f) (ks : List Tmp) : ∀ n, CodeOk C nf base (.loop c) (iter f ks n) := by
  have key : ∀ n (ρ : Env) (H : Heap) (x : Ex) (ρ' : Env) (H' : Heap), base ≤ H.length → iter f ks n ρ H = some (x, ρ', H') → base ≤ H'.length ∧ ∀ (β : Beta) (a : Act) (w : World) (Q : Exit → Act → World → Prop), Sim nf β H w → ER β ρ a.tmps →
      (∀ β' w' a', Post nf base β H w β' H' w' → ER β' ρ' a'.tmps → a'.defers = a.defers → Q (exOf x) a' w') → ∀ (b : Frame) (k : List Item) (cs : List Frame), ∃ e a' w', Q e a' w' ∧ Arrives C.P (lone (b.at a (.code c :: .inLoop c :: k)) cs w) b k cs e a' w' := by
    intro n
    induction n with
    | zero => intro ρ H x ρ' H' _ h; simp [iter] at h
    | succ n ih =>
      intro ρ H x ρ' H' hb h
      simp only [iter] at h
      obtain ⟨⟨x1, ρ1, H1⟩, h1, h2⟩ := Option.bind_eq_some_iff.1 h
      obtain ⟨hb1, hwp⟩ := hf _ _ _ _ _ hb h1
      cases x1 with
      | normal =>
        simp only at h2
        obtain ⟨hb2, hk⟩ := ih ρ1 H1 x ρ' H' hb1 h2
        refine ⟨hb2, fun β a w Q hs he hQ b k cs => ?_⟩
        have := hwp β a w (fun e a1 w1 => e = .normal ∧ ∃ β1, Post nf base β H w β1 H1 w1 ∧ ER β1 ρ1 a1.tmps ∧ a1.defers = a.defers) hs (wipe_ER ks he) (fun β' w' a' p1 p2 p3 => ⟨rfl, β', p1, p2, p3⟩) b (.inLoop c :: k) cs
        obtain ⟨e, a1, w1, ⟨rfl, β1, p1, p2, p3⟩, harr⟩ := this
        obtain ⟨e2, a2, w2, hq2, harr2⟩ := hk β1 a1 w1 Q p1.sim p2 (fun β' w' a' q1 q2 q3 => hQ β' w' a' (p1.trans q1) q2 (q3.trans p3)) b k cs
        exact ⟨e2, a2, w2, hq2, .of_steps (Steps.trans harr (.one step_inLoop)) harr2⟩
      | exit i =>
        simp only [Option.some.injEq, Prod.mk.injEq] at h2
        obtain ⟨rfl, rfl, rfl⟩ := h2
        refine ⟨hb1, fun β a w Q hs he hQ b k cs => ?_⟩
        obtain ⟨e, a1, w1, ⟨rfl, hq⟩, harr⟩ := hwp β a w (fun e a1 w1 => e = .exit i ∧ Q e a1 w1) hs (wipe_ER ks he) (fun β' w' a' p1 p2 p3 => ⟨rfl, hQ β' w' a' p1 p2 p3⟩) b (.inLoop c :: k) cs
        exact ⟨_, a1, w1, hq, .pass (x := .inLoop c) rfl (fun _ _ => .inl (by simp)) harr⟩
      | ret =>
        simp only [Option.some.injEq, Prod.mk.injEq] at h2
        obtain ⟨rfl, rfl, rfl⟩ := h2
        refine ⟨hb1, fun β a w Q hs he hQ b k cs => ?_⟩
        obtain ⟨e, a1, w1, ⟨rfl, hq⟩, harr⟩ := hwp β a w (fun e a1 w1 => e = .ret ∧ Q e a1 w1) hs (wipe_ER ks he) (fun β' w' a' p1 p2 p3 => ⟨rfl, hQ β' w' a' p1 p2 p3⟩) b (.inLoop c :: k) cs
        exact ⟨_, a1, w1, hq, .pass (x := .inLoop c) rfl (fun _ _ => .inl (by simp)) harr⟩
  intro n ρ H x ρ' H' hb h
  obtain ⟨h1, h2⟩ := key n ρ H x ρ' H' hb h
  refine ⟨h1, fun β a w Q hs he hQ b k cs => ?_⟩
  obtain ⟨e, a', w', hq, harr⟩ := h2 β a w Q hs he hQ b k cs
  exact ⟨e, a', w', hq, .of_steps (.one step_loop) harr⟩

theorem exec_does (hm : C.P.follows .mixedOrders = true) (hc : CallsOk C nf call) (hk : CallKeeps C call) (hcb : CallBase C call) (hnb : nf ≤ base) (n : Nat) : ∀ c : Code, CodeOk C nf base c (exec C call n base c) := by
  intro c
  induction c with
  | skip =>
    intro ρ H x ρ' H' hb h
    simp only [exec, Option.some.injEq, Prod.mk.injEq] at h
    obtain ⟨rfl, rfl, rfl⟩ := h
    exact ⟨hb, fun β a w Q hs he hQ => wp_skip (hQ β w a (.refl hs) he rfl)⟩
  | region id ops draw =>
    intro ρ H x ρ' H' hb h
    simp only [exec] at h
    have hlen : ∀ (l : List Oper) (ρ : Env) (H : Heap), base ≤ H.length → ∀ ρ' H', runOps C call base draw ops l ρ H = some (ρ', H') → base ≤ H'.length := by
      intro l
      induction l with
      | nil => intro ρ H hb ρ' H' h; simp only [runOps, Option.some.injEq, Prod.mk.injEq] at h; rw [← h.2]; exact hb
      | cons o l ih =>
        intro ρ H hb ρ' H' h
        simp only [runOps] at h
        obtain ⟨g, hg, h⟩ := Option.bind_eq_some_iff.1 h
        cases g with
        | true =>
          simp only at h
          obtain ⟨y, hy, h⟩ := Option.bind_eq_some_iff.1 h
          exact ih _ _ (Nat.le_trans hb (evalOp_keeps hk hb hy).1.1) _ _ h
        | false => exact ih _ _ hb _ _ h
    cases draw with
    | false =>
      simp only [Bool.false_eq_true, if_false] at h
      obtain ⟨⟨ρ1, H1⟩, h1, h2⟩ := Option.map_eq_some_iff.1 h
      simp only [Prod.mk.injEq] at h2
      obtain ⟨rfl, rfl, rfl⟩ := h2
      exact ⟨hlen _ _ _ hb _ _ h1, fun β a w Q hs he hQ => region_does hm hc hk hcb hnb hb hs he (fun hdr => absurd hdr (by decide)) h1 hQ⟩
    | true =>
      simp only [if_true] at h
      obtain ⟨ps, hps, h⟩ := Option.bind_eq_some_iff.1 h
      obtain ⟨⟨ρ1, H1⟩, h1, h2⟩ := Option.bind_eq_some_iff.1 h
      split at h2
      · rename_i hap
        simp only [Option.some.injEq, Prod.mk.injEq] at h2
        obtain ⟨rfl, rfl, rfl⟩ := h2
        exact ⟨hlen _ _ _ hb _ _ h1, fun β a w Q hs he hQ => region_does hm hc hk hcb hnb hb hs he (fun _ => ⟨ps, hps, hap⟩) h1 hQ⟩
      · cases h2
  | seq c d ihc ihd =>
    intro ρ H x ρ' H' hb h
    simp only [exec] at h
    obtain ⟨⟨x1, ρ1, H1⟩, h1, h2⟩ := Option.bind_eq_some_iff.1 h
    obtain ⟨hb1, hw1⟩ := ihc _ _ _ _ _ hb h1
    cases x1 with
    | normal =>
      simp only at h2
      obtain ⟨hb2, hw2⟩ := ihd _ _ _ _ _ hb1 h2
      refine ⟨hb2, fun β a w Q hs he hQ => wp_seq (hw1 β a w _ hs he fun β' w' a' p1 p2 p3 => ?_)⟩
      exact hw2 β' a' w' Q p1.sim p2 fun β2 w2 a2 q1 q2 q3 => hQ β2 w2 a2 (p1.trans q1) q2 (q3.trans p3)
    | exit i =>
      simp only [Option.some.injEq, Prod.mk.injEq] at h2
      obtain ⟨rfl, rfl, rfl⟩ := h2
      exact ⟨hb1, fun β a w Q hs he hQ => wp_seq (hw1 β a w _ hs he fun β' w' a' p1 p2 p3 => hQ β' w' a' p1 p2 p3)⟩
    | ret =>
      simp only [Option.some.injEq, Prod.mk.injEq] at h2
      obtain ⟨rfl, rfl, rfl⟩ := h2
      exact ⟨hb1, fun β a w Q hs he hQ => wp_seq (hw1 β a w _ hs he fun β' w' a' p1 p2 p3 => hQ β' w' a' p1 p2 p3)⟩
  | cond cnd c d ihc ihd =>
    intro ρ H x ρ' H' hb h
    simp only [exec] at h
    split at h
    · rename_i t ht
      have hcv : ∀ {β : Beta} {a : Act}, ER β ρ a.tmps → a.eval cnd = .bool t := fun he => by
        have := he.eval cnd
        rw [ht] at this
        exact this.of_sc rfl
      cases t with
      | true =>
        obtain ⟨hb1, hw1⟩ := ihc _ _ _ _ _ hb h
        exact ⟨hb1, fun β a w Q hs he hQ => wp_cond_true (hcv he) (hw1 β a w Q hs he hQ)⟩
      | false =>
        obtain ⟨hb1, hw1⟩ := ihd _ _ _ _ _ hb h
        exact ⟨hb1, fun β a w Q hs he hQ => wp_cond_false (hcv he) (hw1 β a w Q hs he hQ)⟩
    · cases h
  | block id c ihc =>
    intro ρ H x ρ' H' hb h
    simp only [exec] at h
    obtain ⟨⟨x1, ρ1, H1⟩, h1, h2⟩ := Option.map_eq_some_iff.1 h
    obtain ⟨hb1, hw1⟩ := ihc _ _ _ _ _ hb h1
    cases x1 with
    | normal =>
      simp only [Prod.mk.injEq] at h2
      obtain ⟨rfl, rfl, rfl⟩ := h2
      exact ⟨hb1, fun β a w Q hs he hQ => wp_block (hw1 β a w _ hs he fun β' w' a' p1 p2 p3 => hQ β' w' a' p1 p2 p3)⟩
    | ret =>
      simp only [Prod.mk.injEq] at h2
      obtain ⟨rfl, rfl, rfl⟩ := h2
      exact ⟨hb1, fun β a w Q hs he hQ => wp_block (hw1 β a w _ hs he fun β' w' a' p1 p2 p3 => hQ β' w' a' p1 p2 p3)⟩
    | exit i =>
      simp only [Prod.mk.injEq] at h2
      obtain ⟨rfl, rfl, rfl⟩ := h2
      refine ⟨hb1, fun β a w Q hs he hQ => wp_block (hw1 β a w _ hs he fun β' w' a' p1 p2 p3 => ?_)⟩
      have := hQ β' w' a' p1 p2 p3
      simp only [exOf, Exit.inBlock]
      by_cases hi : i = id
      · rw [if_pos hi] at this ⊢; exact this
      · rw [if_neg hi] at this ⊢; exact this
  | loop c ihc =>
    intro ρ H x ρ' H' hb h
    simp only [exec] at h
    exact iter_does hnb ihc (killed c) n ρ H x ρ' H' hb h
  | exit id =>
    intro ρ H x ρ' H' hb h
    simp only [exec, Option.some.injEq, Prod.mk.injEq] at h
    obtain ⟨rfl, rfl, rfl⟩ := h
    exact ⟨hb, fun β a w Q hs he hQ => wp_exit (hQ β w a (.refl hs) he rfl)⟩
  | ret =>
    intro ρ H x ρ' H' hb h
    simp only [exec, Option.some.injEq, Prod.mk.injEq] at h
    obtain ⟨rfl, rfl, rfl⟩ := h
    exact ⟨hb, fun β a w Q hs he hQ => wp_ret (hQ β w a (.refl hs) he rfl)⟩
  | _ => intro ρ H x ρ' H' hb h; simp [exec] at h
end
end Go.Am

/- A small machine over lists in the place of the memory: functions. What the small machine answers, the real one answers. No conditions. -/
namespace Go.Am
set_option linter.unusedSimpArgs false
set_option linter.unusedVariables false
section
variable {C : Cfg} {P : Program} {nf base : Nat} {call : Nat → CallF} {β β' γ : Beta} {H H' old acc : Heap} {w w' : World}

theorem keeps_append (h : Keeps H.length H H') : ∃ F, H' = H ++ F := by
  refine ⟨H'.drop H.length, ?_⟩
  have : H = H'.take H.length := by
    refine List.ext_getElem? fun b => ?_
    rw [List.getElem?_take]
    by_cases hb : b < H.length
    · rw [if_pos hb, h.2 b hb]
    · rw [if_neg hb, List.getElem?_eq_none (by omega)]
  have e := (List.take_append_drop H.length H').symm
  rw [← this] at e
  exact e

theorem runOps_keeps (hk : CallKeeps C call) {dr : Bool} {ops : Array Oper} : ∀ (l : List Oper) (ρ : Env) (H : Heap), base ≤ H.length → ∀ ρ' H', runOps C call base dr ops l ρ H = some (ρ', H') → Keeps base H H' := by
  intro l
  induction l with
  | nil => intro ρ H hb ρ' H' h; simp only [runOps, Option.some.injEq, Prod.mk.injEq] at h; rw [← h.2]; exact .refl _ _
  | cons o l ih =>
    intro ρ H hb ρ' H' h
    simp only [runOps] at h
    obtain ⟨g, hg, h⟩ := Option.bind_eq_some_iff.1 h
    cases g with
    | true =>
      simp only at h
      obtain ⟨y, hy, h⟩ := Option.bind_eq_some_iff.1 h
      have h1 := (evalOp_keeps hk hb hy).1
      exact h1.trans (ih _ _ (Nat.le_trans hb h1.1) _ _ h)
    | false => exact ih _ _ hb _ _ h

theorem exec_keeps (hk : CallKeeps C call) (n : Nat) : ∀ (c : Code) (ρ : Env) (H : Heap) (x : Ex) (ρ' : Env) (H' : Heap), base ≤ H.length → exec C call n base c ρ H = some (x, ρ', H') → Keeps base H H' := by
  intro c
  induction c with
  | skip => intro ρ H x ρ' H' hb h; simp only [exec, Option.some.injEq, Prod.mk.injEq] at h; rw [← h.2.2]; exact .refl _ _
  | exit id => intro ρ H x ρ' H' hb h; simp only [exec, Option.some.injEq, Prod.mk.injEq] at h; rw [← h.2.2]; exact .refl _ _
  | ret => intro ρ H x ρ' H' hb h; simp only [exec, Option.some.injEq, Prod.mk.injEq] at h; rw [← h.2.2]; exact .refl _ _
  | region id ops draw =>
    intro ρ H x ρ' H' hb h
    cases draw with
    | false =>
      simp only [exec, Bool.false_eq_true, if_false] at h
      obtain ⟨⟨ρ1, H1⟩, h1, h2⟩ := Option.map_eq_some_iff.1 h
      simp only [Prod.mk.injEq] at h2
      obtain ⟨rfl, rfl, rfl⟩ := h2
      exact runOps_keeps hk _ _ _ hb _ _ h1
    | true =>
      simp only [exec, if_true] at h
      obtain ⟨ps, hps, h⟩ := Option.bind_eq_some_iff.1 h
      obtain ⟨⟨ρ1, H1⟩, h1, h2⟩ := Option.bind_eq_some_iff.1 h
      split at h2
      · simp only [Option.some.injEq, Prod.mk.injEq] at h2
        obtain ⟨rfl, rfl, rfl⟩ := h2
        exact runOps_keeps hk _ _ _ hb _ _ h1
      · cases h2
  | seq c d ihc ihd =>
    intro ρ H x ρ' H' hb h
    simp only [exec] at h
    obtain ⟨⟨x1, ρ1, H1⟩, h1, h2⟩ := Option.bind_eq_some_iff.1 h
    have k1 := ihc _ _ _ _ _ hb h1
    cases x1 with
    | normal => exact k1.trans (ihd _ _ _ _ _ (Nat.le_trans hb k1.1) h2)
    | exit i => simp only [Option.some.injEq, Prod.mk.injEq] at h2; rw [← h2.2.2]; exact k1
    | ret => simp only [Option.some.injEq, Prod.mk.injEq] at h2; rw [← h2.2.2]; exact k1
  | cond cnd c d ihc ihd =>
    intro ρ H x ρ' H' hb h
    simp only [exec] at h
    split at h
    · rename_i t ht
      cases t with
      | true => exact ihc _ _ _ _ _ hb h
      | false => exact ihd _ _ _ _ _ hb h
    · cases h
  | block id c ihc =>
    intro ρ H x ρ' H' hb h
    simp only [exec] at h
    obtain ⟨⟨x1, ρ1, H1⟩, h1, h2⟩ := Option.map_eq_some_iff.1 h
    have k1 := ihc _ _ _ _ _ hb h1
    cases x1 <;> (simp only [Prod.mk.injEq] at h2; rw [← h2.2.2]; exact k1)
  | loop c ihc =>
    intro ρ H x ρ' H' hb h
    simp only [exec] at h
    have key : ∀ (m : Nat) (ρ : Env) (H : Heap), base ≤ H.length → iter (exec C call n base c) (killed c) m ρ H = some (x, ρ', H') → Keeps base H H' := by
      intro m
      induction m with
      | zero => intro ρ H _ h; simp [iter] at h
      | succ m ih =>
        intro ρ H hb h
        simp only [iter] at h
        obtain ⟨⟨x1, ρ1, H1⟩, h1, h2⟩ := Option.bind_eq_some_iff.1 h
        have k1 := ihc _ _ _ _ _ hb h1
        cases x1 with
        | normal => exact k1.trans (ih _ _ (Nat.le_trans hb k1.1) h2)
        | exit i => simp only [Option.some.injEq, Prod.mk.injEq] at h2; rw [← h2.2.2]; exact k1
        | ret => simp only [Option.some.injEq, Prod.mk.injEq] at h2; rw [← h2.2.2]; exact k1
    exact key n ρ H hb h
  | _ => intro ρ H x ρ' H' hb h; simp [exec] at h

theorem takeOne_app {n : Nat} {v : Value} {r : Value × Heap × Heap} (h : takeOne P n v old acc = some r) : ∃ F, r.2.2 = acc ++ F := by
  unfold takeOne at h
  split at h
  · cases h; exact ⟨[], by simp⟩
  · cases h; exact ⟨[], by simp⟩
  · split at h
    · cases h; exact ⟨[], by simp⟩
    · cases h
  · split at h
    · cases h; exact ⟨[], by simp⟩
    · obtain ⟨x, _, h⟩ := Option.bind_eq_some_iff.1 h
      split at h
      · cases h; exact ⟨_, rfl⟩
      · cases h
  · split at h
    · cases h; exact ⟨[], by simp⟩
    · cases h
theorem takeAll_app {n : Nat} : ∀ {l : List Value} {old acc : Heap} {r : List Value × Heap × Heap}, takeAll P n l old acc = some r → ∃ F, r.2.2 = acc ++ F := by
  intro l
  induction l with
  | nil => intro old acc r h; simp only [takeAll, Option.some.injEq] at h; subst h; exact ⟨[], by simp⟩
  | cons v l ih =>
    intro old acc r h
    simp only [takeAll] at h
    obtain ⟨x, h1, h⟩ := Option.bind_eq_some_iff.1 h
    obtain ⟨y, h2, rfl⟩ := Option.map_eq_some_iff.1 h
    obtain ⟨F1, e1⟩ := takeOne_app h1
    obtain ⟨F2, e2⟩ := ih h2
    exact ⟨F1 ++ F2, by rw [e2, e1, List.append_assoc]⟩
theorem takeVal_app {n : Nat} {v : Value} {r : Value × Heap × Heap} (h : takeVal P n v old acc = some r) : ∃ F, r.2.2 = acc ++ F := by
  unfold takeVal at h
  split at h
  · obtain ⟨x, h1, rfl⟩ := Option.map_eq_some_iff.1 h; exact takeAll_app h1
  · exact takeOne_app h
theorem takeVals_app {n : Nat} : ∀ {l : List Value} {old acc : Heap} {r : List Value × Heap × Heap}, takeVals P n l old acc = some r → ∃ F, r.2.2 = acc ++ F := by
  intro l
  induction l with
  | nil => intro old acc r h; simp only [takeVals, Option.some.injEq] at h; subst h; exact ⟨[], by simp⟩
  | cons v l ih =>
    intro old acc r h
    simp only [takeVals] at h
    obtain ⟨x, h1, h⟩ := Option.bind_eq_some_iff.1 h
    obtain ⟨y, h2, rfl⟩ := Option.map_eq_some_iff.1 h
    obtain ⟨F1, e1⟩ := takeVal_app h1
    obtain ⟨F2, e2⟩ := ih h2
    exact ⟨F1 ++ F2, by rw [e2, e1, List.append_assoc]⟩

/-- While results are taken out: what is still to be taken, what has been taken. -/
structure Taking (nf n : Nat) (β : Beta) (H : Heap) (w : World) (β' : Beta) (H' : Heap) (w' : World) (old acc : Heap) (γ : Beta) : Prop where
  post : Post nf n β H w γ acc w'
  low : ∀ b, b < n → γ b = β' b
  elder : ∀ (b : Nat) (c : TypeId × List Value), old[b]? = some (some c) → H'[b]? = some (some c)
  apart : ∀ b b2 B s N s2 N2, n ≤ b → live old b → live acc b2 → β' b = some (B, s, N) → γ b2 = some (B, s2, N2) → False

theorem takeOne_does (hp : Post nf H.length β H w β' H' w') (hn : nf ≤ H.length) {v u : Value} {r : Value × Heap × Heap} (ht : Taking nf H.length β H w β' H' w' old acc γ) (hv : VR β' v u) (h : takeOne P H.length v old acc = some r) :
    ∃ γ', Sub γ γ' ∧ VR γ' r.1 u ∧ Taking nf H.length β H w β' H' w' r.2.1 r.2.2 γ' := by
  unfold takeOne at h
  split at h
  · cases h
    refine ⟨γ, Sub.refl _, ?_, ht⟩
    cases hv with
    | sc h => simp [Am.sc] at h
    | snil => exact .snil
  · cases h
    refine ⟨γ, Sub.refl _, ?_, ht⟩
    cases hv with
    | sc h => simp [Am.sc] at h
    | pnil => exact .pnil
  · rename_i b o
    split at h
    · rename_i hb
      cases h
      refine ⟨γ, Sub.refl _, ?_, ht⟩
      cases hv with
      | sc h => simp [Am.sc] at h
      | ptr hβ => exact .ptr (by rw [ht.low b hb]; exact hβ)
    · cases h
  · rename_i b o es m c
    split at h
    · rename_i hb
      cases h
      refine ⟨γ, Sub.refl _, ?_, ht⟩
      cases hv with
      | sc h => simp [Am.sc] at h
      | sl hβ h1 h2 h3 h4 => exact .sl (by rw [ht.low b hb]; exact hβ) h1 h2 h3 h4
    · rename_i hb
      obtain ⟨x, hx, h⟩ := Option.bind_eq_some_iff.1 h
      split at h
      · rename_i hq
        obtain ⟨q1, q2, q3⟩ := hq
        cases h
        cases hv with
        | sc h => simp [Am.sc] at h
        | sl hβ h1 h2 h3 h4 =>
          rename_i B s N cap' off
          have hxo := hget_some hx
          have hH := ht.elder b x hxo
          have hacc := ht.post.len
          have hle : m * es ≤ cap' * es := Nat.mul_le_mul_right _ (by omega)
          obtain ⟨o1, o2⟩ := hp.sim.own b x.1 x.2 B s N (by omega) hH hβ
          have hlen : ((x.2.drop o).take (m * es)).length = m * es := by rw [List.length_take, List.length_drop]; omega
          have hcells : ∀ i, i < m * es → isCell (((x.2.drop o).take (m * es)).getD i undef) = true ∧ ∃ u, w'.cell? ⟨B, off + i, none⟩ = some u ∧ VR γ (((x.2.drop o).take (m * es)).getD i undef) u := by
            intro i hi
            have hm0 : m ≠ 0 := by rintro rfl; simp at hi
            have hoff := h3 (by omega)
            subst hoff
            obtain ⟨k1, uu, k2, k3⟩ := hp.sim.cell b x.1 x.2 B s N hH hβ (o + i) (by omega)
            have e1 : ((x.2.drop o).take (m * es)).getD i undef = x.2.getD (o + i) undef := by
              simp only [List.getD_eq_getElem?_getD, List.getElem?_take, List.getElem?_drop]; rw [if_pos hi]
            rw [e1]
            refine ⟨k1, uu, by rw [Nat.add_assoc]; exact k2, ?_⟩
            have hg : isG (x.2.getD (o + i) undef) = true := by
              rw [← e1, List.getD_eq_getElem?_getD, List.getElem?_eq_getElem (by omega)]
              exact List.all_eq_true.1 q3 _ (List.getElem_mem _)
            rw [k3.of_G hg]
            exact VR.of_C γ (sc_of_G hg)
          have hsub : Sub γ (upd γ acc.length (B, off, N)) := Sub.upd ht.post.sim _
          have hBlt := hp.sim.lt b B s N ⟨_, _, hH⟩ hβ
          have hg : ∀ k y, (acc ++ [some (x.1, (x.2.drop o).take (m * es))])[k]? = some (some y) → (k = acc.length ∧ y = (x.1, (x.2.drop o).take (m * es))) ∨ (k < acc.length ∧ acc[k]? = some (some y)) := by
            intro k y hk
            rw [get_snoc] at hk
            by_cases h : k = acc.length
            · rw [if_pos h] at hk; exact .inl ⟨h, by simpa using hk.symm⟩
            · rw [if_neg h] at hk; exact .inr ⟨(List.getElem?_eq_some_iff.1 hk).1, hk⟩
          have hl : ∀ k, live (acc ++ [some (x.1, (x.2.drop o).take (m * es))]) k → k = acc.length ∨ (k < acc.length ∧ live acc k) := by
            rintro k ⟨T, cs, hk⟩
            rcases hg k _ hk with ⟨e, _⟩ | ⟨e, e2⟩
            · exact .inl e
            · exact .inr ⟨e, _, _, e2⟩
          have hup : ∀ k y, upd γ acc.length (B, off, N) k = some y → (k = acc.length ∧ y = (B, off, N)) ∨ (k ≠ acc.length ∧ γ k = some y) := by
            intro k y hk
            unfold upd at hk
            by_cases h : k = acc.length
            · rw [if_pos h] at hk; exact .inl ⟨h, by simpa using hk.symm⟩
            · rw [if_neg h] at hk; exact .inr ⟨h, hk⟩
          have hlo : live old b := ⟨_, _, hxo⟩
          refine ⟨upd γ acc.length (B, off, N), hsub, .sl (s := off) (N := N) (upd_self _ _) (Nat.le_refl _) (by omega) (fun _ => rfl) h4, ⟨⟨⟨?_, ?_, ?_, ?_, ?_⟩, ?_, ?_, ht.post.os, ht.post.tape, ht.post.output, ht.post.size, ht.post.frame, ?_, ?_⟩, ?_, ?_, ?_⟩⟩
          · intro k y hk
            rcases hup k y hk with ⟨e, _⟩ | ⟨_, e⟩
            · simp [e]
            · have := ht.post.sim.dom k y e; simp; omega
          · intro k B2 s2 N2 k1 k2
            rcases hup k _ k2 with ⟨_, e⟩ | ⟨e, e2⟩
            · simp only [Prod.mk.injEq] at e; omega
            · rcases hl k k1 with h | ⟨_, h⟩
              · exact absurd h e
              · exact ht.post.sim.lt k B2 s2 N2 h e2
          · intro k T2 c2 B2 s2 N2 k1 k2 i hi
            rcases hg k _ k1 with ⟨e, e2⟩ | ⟨e, e2⟩
            · rcases hup k _ k2 with ⟨_, f⟩ | ⟨f, _⟩
              · simp only [Prod.mk.injEq] at e2 f
                obtain ⟨rfl, rfl⟩ := e2
                obtain ⟨rfl, rfl, rfl⟩ := f
                obtain ⟨r1, r2, r3, r4⟩ := hcells i (by omega)
                exact ⟨r1, r2, r3, r4.mono hsub⟩
              · exact absurd e f
            · rcases hup k _ k2 with ⟨f, _⟩ | ⟨_, f⟩
              · omega
              · obtain ⟨r1, r2, r3, r4⟩ := ht.post.sim.cell k T2 c2 B2 s2 N2 e2 f i hi
                exact ⟨r1, r2, r3, r4.mono hsub⟩
          · intro k T2 c2 B2 s2 N2 k0 k1 k2
            rcases hg k _ k1 with ⟨e, e2⟩ | ⟨e, e2⟩
            · rcases hup k _ k2 with ⟨_, f⟩ | ⟨f, _⟩
              · simp only [Prod.mk.injEq] at e2 f
                obtain ⟨rfl, rfl⟩ := e2
                obtain ⟨rfl, rfl, rfl⟩ := f
                exact ⟨by rw [hlen]; omega, o2⟩
              · exact absurd e f
            · rcases hup k _ k2 with ⟨f, _⟩ | ⟨_, f⟩
              · omega
              · exact ht.post.sim.own k T2 c2 B2 s2 N2 k0 e2 f
          · intro k k' B2 s1 N1 s2 N2 k0 k1 k1' k2 k2'
            rcases hup k _ k2 with ⟨e1, e2⟩ | ⟨e1, e2⟩ <;> rcases hup k' _ k2' with ⟨f1, f2⟩ | ⟨f1, f2⟩
            · omega
            · exfalso
              simp only [Prod.mk.injEq] at e2
              rcases hl k' k1' with h | ⟨_, h⟩
              · exact f1 h
              · rw [e2.1] at f2
                exact ht.apart b k' B s N s2 N2 (by omega) hlo h hβ f2
            · exfalso
              simp only [Prod.mk.injEq] at f2
              rcases hl k k1 with h | ⟨_, h⟩
              · exact e1 h
              · rw [f2.1] at e2
                exact ht.apart b k B s N s1 N1 (by omega) hlo h hβ e2
            · rcases hl k k1 with h | ⟨_, h⟩
              · exact absurd h e1
              rcases hl k' k1' with h' | ⟨_, h'⟩
              · exact absurd h' f1
              exact ht.post.sim.inj k k' B2 s1 N1 s2 N2 k0 h h' e2 f2
          · simp; omega
          · intro k hk
            unfold upd; rw [if_neg (by omega)]; exact ht.post.old k hk
          · intro k B2 s2 N2 k0 k1 k2
            rcases hup k _ k2 with ⟨e1, e2⟩ | ⟨e1, e2⟩
            · simp only [Prod.mk.injEq] at e2
              rcases hp.new b B s N (by omega) ⟨_, _, hH⟩ hβ with h5 | ⟨b0, s0, N0, f1, f2, f3, f4⟩
              · exact .inl (by omega)
              · exact absurd f2.lt (by omega)
            · rcases hl k k1 with h | ⟨_, h⟩
              · exact absurd h e1
              · rcases ht.post.new k B2 s2 N2 k0 h e2 with h5 | ⟨b0, s0, N0, f1, f2, f3, f4⟩
                · exact .inl h5
                · exact absurd f2.lt (by omega)
          · intro k hk h
            rcases hl k h with e | ⟨_, e⟩
            · omega
            · exact ht.post.dead k hk e
          · intro k hk
            unfold upd; rw [if_neg (by omega)]; exact ht.low k hk
          · intro k y hk
            rw [get_kill] at hk
            split at hk
            · simp at hk
            · exact ht.elder k y hk
          · intro k k2 B2 s1 N1 s2 N2 k0 k1 k3 k4 k5
            obtain ⟨T2, c2, k1⟩ := k1
            rw [get_kill] at k1
            split at k1
            · simp at k1
            · rename_i hne
              have hkb : k ≠ b := fun e => hne ⟨e, (List.getElem?_eq_some_iff.1 k1).1⟩
              rcases hup k2 _ k5 with ⟨e1, e2⟩ | ⟨e1, e2⟩
              · simp only [Prod.mk.injEq] at e2
                rw [e2.1] at k4
                exact hkb (hp.sim.inj k b B s1 N1 s N (by omega) ⟨_, _, ht.elder k _ k1⟩ ⟨_, _, hH⟩ k4 hβ)
              · rcases hl k2 k3 with h | ⟨_, h⟩
                · exact absurd h e1
                · exact ht.apart k k2 B2 s1 N1 s2 N2 k0 ⟨_, _, k1⟩ h k4 e2
      · cases h
  · split at h
    · rename_i hsc
      cases h
      refine ⟨γ, Sub.refl _, ?_, ht⟩
      rw [hv.of_sc hsc]; exact .sc hsc
    · cases h

theorem takeAll_does (hp : Post nf H.length β H w β' H' w') (hn : nf ≤ H.length) : ∀ {l us : List Value} {old acc : Heap} {γ : Beta} {r : List Value × Heap × Heap}, Taking nf H.length β H w β' H' w' old acc γ → VRL β' l us → takeAll P H.length l old acc = some r →
    ∃ γ', Sub γ γ' ∧ VRL γ' r.1 us ∧ Taking nf H.length β H w β' H' w' r.2.1 r.2.2 γ' := by
  intro l
  induction l with
  | nil =>
    intro us old acc γ r ht hv h
    simp only [takeAll, Option.some.injEq] at h
    subst h
    obtain rfl : us = [] := List.eq_nil_of_length_eq_zero hv.1.symm
    exact ⟨γ, Sub.refl _, .nil γ, ht⟩
  | cons v l ih =>
    intro us old acc γ r ht hv h
    cases us with
    | nil => exact absurd hv.1 (by simp)
    | cons u us =>
      simp only [takeAll] at h
      obtain ⟨x, h1, h⟩ := Option.bind_eq_some_iff.1 h
      obtain ⟨y, h2, rfl⟩ := Option.map_eq_some_iff.1 h
      obtain ⟨γ1, s1, v1, t1⟩ := takeOne_does hp hn ht hv.head h1
      obtain ⟨γ2, s2, v2, t2⟩ := ih t1 hv.tail h2
      exact ⟨γ2, s1.trans s2, .cons (v1.mono s2) v2, t2⟩
theorem takeVal_does (hp : Post nf H.length β H w β' H' w') (hn : nf ≤ H.length) {v u : Value} {r : Value × Heap × Heap} (ht : Taking nf H.length β H w β' H' w' old acc γ) (hv : VR β' v u) (h : takeVal P H.length v old acc = some r) :
    ∃ γ', Sub γ γ' ∧ VR γ' r.1 u ∧ Taking nf H.length β H w β' H' w' r.2.1 r.2.2 γ' := by
  unfold takeVal at h
  split at h
  · obtain ⟨x, h1, rfl⟩ := Option.map_eq_some_iff.1 h
    cases hv with
    | sc h => simp [Am.sc] at h
    | agg k1 k2 =>
      obtain ⟨γ1, s1, v1, t1⟩ := takeAll_does hp hn ht (VRL.ofArray k1 k2) h1
      refine ⟨γ1, s1, ?_, t1⟩
      exact .agg (by simpa using v1.1) (fun i => by simpa [List.getD_eq_getElem?_getD, Array.getD_eq_getD_getElem?] using v1.2 i)
  · exact takeOne_does hp hn ht hv h
theorem takeVals_does (hp : Post nf H.length β H w β' H' w') (hn : nf ≤ H.length) : ∀ {l us : List Value} {old acc : Heap} {γ : Beta} {r : List Value × Heap × Heap}, Taking nf H.length β H w β' H' w' old acc γ → VRL β' l us → takeVals P H.length l old acc = some r →
    ∃ γ', Sub γ γ' ∧ VRL γ' r.1 us ∧ Taking nf H.length β H w β' H' w' r.2.1 r.2.2 γ' := by
  intro l
  induction l with
  | nil =>
    intro us old acc γ r ht hv h
    simp only [takeVals, Option.some.injEq] at h
    subst h
    obtain rfl : us = [] := List.eq_nil_of_length_eq_zero hv.1.symm
    exact ⟨γ, Sub.refl _, .nil γ, ht⟩
  | cons v l ih =>
    intro us old acc γ r ht hv h
    cases us with
    | nil => exact absurd hv.1 (by simp)
    | cons u us =>
      simp only [takeVals] at h
      obtain ⟨x, h1, h⟩ := Option.bind_eq_some_iff.1 h
      obtain ⟨y, h2, rfl⟩ := Option.map_eq_some_iff.1 h
      obtain ⟨γ1, s1, v1, t1⟩ := takeVal_does hp hn ht hv.head h1
      obtain ⟨γ2, s2, v2, t2⟩ := ih t1 hv.tail h2
      exact ⟨γ2, s1.trans s2, .cons (v1.mono s2) v2, t2⟩

theorem tupA_rel {vs us : List Value} (h : VRL β vs us) : VR β (tupA vs) (tupA us) := by
  match vs, us, h with
  | [], [], h => exact .any _
  | [v], [u], h => exact h.head
  | v :: v2 :: vs, u :: u2 :: us, h => exact .tup h.toArray.1 h.toArray.2
  | [], u :: us, h => exact absurd h.1 (by simp)
  | [v], [], h => exact absurd h.1 (by simp)
  | [v], u :: u2 :: us, h => exact absurd h.1 (by simp)
  | v :: v2 :: vs, [], h => exact absurd h.1 (by simp)
  | v :: v2 :: vs, [u], h => exact absurd h.1 (by simp)

theorem handBack_does (hs : Sim nf β H w) (hn : nf ≤ base) (hb : base ≤ H.length) {f : FuncId} (hp : Post nf (if C.wr f then base else H.length) β H w β' H' w') (hkp : Keeps (if C.wr f then base else H.length) H H') {vs us : List Value} (hv : VRL β' vs us) {r : Value × Heap} (h : handBack C f H.length vs H' = some r) :
    ∃ γ, VR γ r.1 (tupA us) ∧ Post nf base β H w γ r.2 w' := by
  unfold handBack at h
  by_cases hr : (C.raw f || C.wr f) = true
  · rw [if_pos hr] at h; cases h
    refine ⟨β', tupA_rel hv, hp.mono ?_⟩
    split
    · exact Nat.le_refl _
    · exact hb
  · rw [if_neg hr] at h
    simp only [Bool.or_eq_true, not_or, Bool.not_eq_true] at hr
    rw [hr.2] at hp hkp
    simp only [Bool.false_eq_true, if_false] at hp hkp
    obtain ⟨x, h1, rfl⟩ := Option.map_eq_some_iff.1 h
    obtain ⟨F, hF⟩ := keeps_append hkp
    have htake : H'.take H.length = H := by rw [hF]; simp
    rw [htake] at h1
    have hfr : ∀ B, B < w.heap.size → w'.heap[B]? = w.heap[B]? := fun B hB => hp.frame B hB (fun b s N k1 k2 k3 => absurd k2.lt (by omega))
    have hst := hs.still hp.size hfr
    have htk : Taking nf H.length β H w β' H' w' H' H β := by
      refine ⟨⟨hst, Nat.le_refl _, fun _ _ => rfl, hp.os, hp.tape, hp.output, hp.size, fun B hB _ => hfr B hB, fun b B s N k1 k2 k3 => absurd (hs.dom b _ k3) (by omega), fun _ _ h => h⟩, fun b hb2 => (hp.old b hb2).symm, fun b c h => h, fun b b2 B s N s2 N2 k1 k2 k3 k4 k5 => ?_⟩
      have hlt := hs.lt b2 B s2 N2 k3 k5
      rcases hp.new b B s N k1 k2 k4 with h5 | ⟨b0, s0, N0, f1, f2, f3, f4⟩
      · omega
      · exact absurd f2.lt (by omega)
    obtain ⟨γ, s1, v1, t1⟩ := takeVals_does hp (by omega) htk hv h1
    exact ⟨γ, tupA_rel v1, t1.post.mono hb⟩

theorem resA_does (hs : Sim nf β H w) {ρ : Env} {a : Act} (he : ER β ρ a.tmps) : ∀ {l : List ResultVar} {vs : List Value}, resA P ρ H l = some vs → ∃ us : List Value, VRL β vs us ∧
    (l.mapM fun (x : ResultVar) => match x with | .tmp t => (pure (a.tmps.getD t undef) : Sem Value) | .cell ad t => do loadVar t (← asAddr (a.tmps.getD ad undef))).run P w = .ok us w := by
  intro l
  induction l with
  | nil => intro vs h; simp only [resA, Option.some.injEq] at h; subst h; exact ⟨[], .nil β, rfl⟩
  | cons x l ih =>
    intro vs h
    cases x with
    | tmp t =>
      simp only [resA] at h
      obtain ⟨vs', h1, rfl⟩ := Option.map_eq_some_iff.1 h
      obtain ⟨us, k1, k2⟩ := ih h1
      refine ⟨a.tmps.getD t undef :: us, .cons (he.eval (.tmp t)) k1, ?_⟩
      simp only [List.mapM_cons, Sem.run_bind, Sem.run_pure, Result.andThen_ok, k2]
    | cell ad t =>
      simp only [resA] at h
      obtain ⟨v, h0, h⟩ := Option.bind_eq_some_iff.1 h
      obtain ⟨vs', h1, rfl⟩ := Option.map_eq_some_iff.1 h
      obtain ⟨us, k1, k2⟩ := ih h1
      have hv := he.eval (.tmp ad)
      obtain ⟨u', l1, l2⟩ := load_does (P := P) hs hv h0
      have hptr : ∃ a', a.tmps.getD ad undef = .pointer (some a') := by
        simp only [ev] at h0 hv
        unfold loadA at h0
        split at h0
        · rename_i b o heq
          rw [heq] at hv
          have e : a.eval (.tmp ad) = a.tmps.getD ad undef := rfl
          rw [e] at hv
          generalize a.tmps.getD ad undef = q at hv
          cases hv with
          | sc h => simp [Am.sc] at h
          | ptr hβ => exact ⟨_, rfl⟩
        · cases h0
      obtain ⟨a', ha'⟩ := hptr
      refine ⟨u' :: us, .cons l2 k1, ?_⟩
      have e : a.eval (.tmp ad) = a.tmps.getD ad undef := rfl
      rw [e, ha'] at l1
      simp only [Instr.loadAt, Instr.sureAddr, Sem.run_bind, Sem.run_pure, Result.andThen_ok] at l1
      have hq : (asAddr (a.tmps.getD ad undef)).run P w = .ok a' w := by rw [ha']; rfl
      simp only [List.mapM_cons, hq, Sem.run_bind, Sem.run_pure, Result.andThen_ok, l1, k2]

theorem results_does (hs : Sim nf β H w) {ρ : Env} {a : Act} (he : ER β ρ a.tmps) {fn : Func} {vs : List Value} (h : resA P ρ H fn.results.toList = some vs) : ∃ us : List Value, VRL β vs us ∧ (results fn a.tmps).run P w = .ok (tupA us) w := by
  obtain ⟨us, h1, h2⟩ := resA_does (P := P) hs he h
  refine ⟨us, h1, ?_⟩
  unfold results
  simp only [Array.mapM_eq_mapM_toList, Sem.run_bind, Sem.run_map]
  refine Eq.trans (congrArg (fun r : Result (List Value) => (r.andThen fun (a : List Value) w' => Result.ok a.toArray w').andThen fun (a : Array Value) w' => Sem.run P (pure (if h : a.size = 1 then a[0] else Value.tuple a)) w') h2) ?_
  simp only [Result.andThen_ok, Sem.run_pure]
  match us with
  | [] => rfl
  | [u] => rfl
  | u :: u2 :: us => simp [tupA]

theorem Post.lower {base' : Nat} (h : Post nf base β H w β' H' w') (hb : base' ≤ base) : Post nf base' β H w β' H' w' :=
  { h with
    frame := fun B hB hn => h.frame B hB fun b s N hb' hl he => hn b s N (Nat.le_trans hb hb') hl he
    new := fun b B s N hb' hl he => (h.new b B s N hb' hl he).imp id fun ⟨b0, s0, N0, k1, k2, k3, k4⟩ => ⟨b0, s0, N0, Nat.le_trans hb k1, k2, k3, k4⟩ }
/-- What is told of functions by proofs of their own is so. -/
def FrnOk (C : Cfg) (nf : Nat) : Prop := ∀ g G, C.frn g = some G → (∃ fn, C.P.funcs[g]? = some fn ∧ (fn.name == "runtime.NumGoroutine") = false ∧ fn.body.isSome = true) ∧
  ∀ args H v H', nf ≤ H.length → G args H = some (v, H') → (∃ F, H' = H ++ F) ∧ ∀ (β : Beta) (w : World) (args' : Array Value), Sim nf β H w → VRL β args args'.toList →
    Calls C.P g args' w fun e w' => ∃ v' β', e = .returned v' ∧ VR β' v v' ∧ Post nf H.length β H w β' H' w'
/-- No function is told of so. -/
theorem FrnOk.none {C : Cfg} {nf : Nat} (h : ∀ g, C.frn g = Option.none) : FrnOk C nf := fun g G hg => by rw [h g] at hg; cases hg
theorem run_ok (hm : C.P.follows .mixedOrders = true) (hfk : ∀ g G args H v H', C.frn g = some G → G args H = some (v, H') → ∃ F, H' = H ++ F) (hfo : FrnOk C nf) : ∀ k, CallsOk C nf (run C k) ∧ CallKeeps C (run C k) ∧ CallBase C (run C k) := by
  intro k
  induction k with
  | zero => exact ⟨fun base g args H v H' _ _ h => by simp [run] at h, fun base g args H v H' _ h => by simp [run] at h, fun g _ b b' args H => rfl⟩
  | succ k ih =>
    obtain ⟨i1, i2, i3⟩ := ih
    refine ⟨fun base g args H v H' hnb hbl h => ?_, fun base g args H v H' hbl h => ?_, fun g hw b b' args H => ?_⟩
    · rw [run] at h
      split at h
      · rename_i G hG
        obtain ⟨k1, k2⟩ := hfo g G hG
        obtain ⟨_, k4⟩ := k2 args H v H' (Nat.le_trans hnb hbl) h
        exact ⟨k1, fun β w args' hs hargs => (k4 β w args' hs hargs).mono fun e w' ⟨v', β', h1, h2, h3⟩ => ⟨v', β', h1, h2, h3.lower hbl⟩⟩
      obtain ⟨fn, hf, h⟩ := Option.bind_eq_some_iff.1 h
      obtain ⟨c, hc, h⟩ := Option.bind_eq_some_iff.1 h
      by_cases hn : (fn.name == "runtime.NumGoroutine") = true
      · rw [if_pos hn] at h; cases h
      rw [if_neg hn] at h
      refine ⟨⟨fn, hf, by simpa using hn, by rw [hc]; rfl⟩, fun β w args' hs hargs => ?_⟩
      unfold body at h
      obtain ⟨⟨x, ρ', H1⟩, he, h⟩ := Option.bind_eq_some_iff.1 h
      have hb' : nf ≤ (if C.wr g = true then base else H.length) := by split <;> omega
      have hb'' : (if C.wr g = true then base else H.length) ≤ H.length := by split <;> omega
      obtain ⟨hbb, hwp⟩ := exec_does hm i1 i2 i3 hb' k c _ _ _ _ _ hb'' he
      have hkp := exec_keeps i2 k c _ _ _ _ _ hb'' he
      refine calls_of_wp hf hc (hwp β { tmps := args' ++ Array.replicate (fn.ntmps - args'.size) undef, defers := [] } w _ hs ?_ fun β' w' a' hp he' hd => ?_)
      · have hl : args.length = args'.size := by simpa using hargs.1
        unfold ER
        rw [Array.toList_append, Array.toList_replicate, hl]
        refine hargs.append ⟨by simp, fun i => ?_⟩
        simp only [List.getD_eq_getElem?_getD, List.getElem?_replicate]
        split <;> exact .any _
      · have fin : ∀ vs, resA C.P ρ' H1 fn.results.toList = some vs → handBack C g H.length vs H1 = some (v, H') → ∃ u, (results fn a'.tmps).run C.P w' = .ok u w' ∧ ∃ v' β'', Ending.returned u = .returned v' ∧ VR β'' v v' ∧ Post nf base β H w β'' H' w' := by
          intro vs h1 h2
          obtain ⟨us, k1, k2⟩ := results_does (P := C.P) hp.sim he' h1
          obtain ⟨γ, k3, k4⟩ := handBack_does hs hnb hbl hp hkp k1 h2
          exact ⟨_, k2, _, γ, rfl, k3, k4⟩
        cases x with
        | exit i => cases h
        | normal =>
          obtain ⟨vs, h1, h2⟩ := Option.bind_eq_some_iff.1 h
          exact ⟨hd, fin vs h1 h2⟩
        | ret =>
          obtain ⟨vs, h1, h2⟩ := Option.bind_eq_some_iff.1 h
          exact ⟨hd, fin vs h1 h2⟩
    · rw [run] at h
      split at h
      · rename_i G hG
        obtain ⟨F, hF⟩ := hfk g G args H v H' hG h
        exact ⟨by rw [hF]; exact .append hbl _, fun _ => ⟨F, hF⟩⟩
      obtain ⟨fn, hf, h⟩ := Option.bind_eq_some_iff.1 h
      obtain ⟨c, hc, h⟩ := Option.bind_eq_some_iff.1 h
      split at h
      · cases h
      unfold body at h
      obtain ⟨⟨x, ρ', H1⟩, he, h⟩ := Option.bind_eq_some_iff.1 h
      have hb'' : (if C.wr g = true then base else H.length) ≤ H.length := by split <;> omega
      have hkp := exec_keeps i2 k c _ _ _ _ _ hb'' he
      have fin : ∀ vs, handBack C g H.length vs H1 = some (v, H') → Keeps base H H' ∧ (C.wr g = false → ∃ F, H' = H ++ F) := by
        intro vs h2
        unfold handBack at h2
        by_cases hr : (C.raw g || C.wr g) = true
        · rw [if_pos hr] at h2; cases h2
          refine ⟨hkp.mono (by split <;> omega), fun hw => ?_⟩
          rw [hw] at hkp
          exact keeps_append hkp
        · rw [if_neg hr] at h2
          simp only [Bool.or_eq_true, not_or, Bool.not_eq_true] at hr
          rw [hr.2] at hkp
          obtain ⟨F, hF⟩ := keeps_append hkp
          obtain ⟨y, h3, h4⟩ := Option.map_eq_some_iff.1 h2
          have htake : H1.take H.length = H := by rw [hF]; simp
          rw [htake] at h3
          obtain ⟨F2, hF2⟩ := takeVals_app h3
          have e : H' = H ++ F2 := by rw [← hF2]; exact (congrArg Prod.snd h4).symm
          exact ⟨by rw [e]; exact .append hbl _, fun _ => ⟨F2, e⟩⟩
      cases x with
      | exit i => cases h
      | normal => obtain ⟨vs, h1, h2⟩ := Option.bind_eq_some_iff.1 h; exact fin vs h2
      | ret => obtain ⟨vs, h1, h2⟩ := Option.bind_eq_some_iff.1 h; exact fin vs h2
    · simp only [run, body, hw, Bool.false_eq_true, if_false]
end
end Go.Am

/- A small machine over lists in the place of the memory: its steps, for simp. No conditions. -/
namespace Go.Am
set_option linter.unusedVariables false
set_option linter.unusedSimpArgs false

/-- What is still to be done. -/
inductive It where
  | code (c : Code)
  | blk (id : Nat)
  | lp (c : Code) (ks : List Tmp) (n : Nat)
  | ops (dr : Bool) (gs : List (Option Tmp)) (l : List Oper)
  | ap (ps : List (Tmp × Tmp))

/-- An operation without its place in the text and what it hangs on. -/
@[go_sem] def slim (o : Oper) : Oper := ⟨o.dst, o.op, o.type, "", #[], o.guard⟩
def wantG (gs : List (Option Tmp)) (o : Oper) (ρ : Env) : Option Bool :=
  match o.guard with
  | none => some true
  | some (j, want) => match (gs[j]?).join with
    | none => none
    | some t => match ρ[t]? with
      | some (.bool b) => some (if want then b else !b)
      | some (.chan _) => some false
      | _ => none
def runG (C : Cfg) (call : Nat → CallF) (base : Nat) (dr : Bool) (gs : List (Option Tmp)) : List Oper → Env → Heap → Option (Env × Heap)
  | [], ρ, H => some (ρ, H)
  | o :: r, ρ, H => (wantG gs o ρ).bind fun g => match g with
    | true => (evalOp C call base dr o ρ H).bind fun x => runG C call base dr gs r (putA ρ o.dst x.1) x.2
    | false => runG C call base dr gs r (putA ρ o.dst sk) H
theorem ground_slim (P : Program) (ρ : Env) (o : Oper) : groundA P ρ (slim o) = groundA P ρ o := rfl
theorem evalOp_slim (C : Cfg) (call : Nat → CallF) (base : Nat) (dr : Bool) (o : Oper) (ρ : Env) (H : Heap) : evalOp C call base dr (slim o) ρ H = evalOp C call base dr o ρ H := rfl
theorem want_slim (ops : Array Oper) (o : Oper) (ρ : Env) : wantG (ops.toList.map (·.dst)) (slim o) ρ = wantA ops o ρ := by
  have e : ∀ j : Nat, ((ops.toList.map (·.dst))[j]?).join = (ops[j]?).bind (·.dst) := fun j => by
    rw [List.getElem?_map, Array.getElem?_toList]; cases ops[j]? <;> rfl
  unfold wantG wantA slim
  simp only [e]
  rfl
theorem runG_eq (C : Cfg) (call : Nat → CallF) (base : Nat) (dr : Bool) (ops : Array Oper) : ∀ (l : List Oper) (ρ : Env) (H : Heap), runG C call base dr (ops.toList.map (·.dst)) (l.map slim) ρ H = runOps C call base dr ops l ρ H
  | [], _, _ => rfl
  | o :: l, ρ, H => by
    simp only [List.map_cons, runG, runOps, want_slim, evalOp_slim]
    congr 1
    funext g
    cases g with
    | true => simp only; congr 1; funext x; exact runG_eq C call base dr ops l _ _
    | false => exact runG_eq C call base dr ops l _ _

abbrev St := Option (Ex × Env × Heap)
def thenN (r : St) (f : Env → Heap → St) : St := r.bind fun x => match x with
  | (.normal, ρ, H) => f ρ H
  | x => some x
def fin (C : Cfg) (call : Nat → CallF) (n base : Nat) : List It → St → St
  | [], r => r
  | .code c :: k, r => fin C call n base k (thenN r (exec C call n base c))
  | .blk id :: k, r => fin C call n base k (r.map fun x => match x with
    | (.exit i, ρ', H') => (if i = id then .normal else .exit i, ρ', H')
    | x => x)
  | .lp c ks m :: k, r => fin C call n base k (thenN r (iter (exec C call n base c) ks m))
  | .ops dr gs l :: k, r => fin C call n base k (thenN r fun ρ H => (runG C call base dr gs l ρ H).map fun x => (.normal, x.1, x.2))
  | .ap ps :: k, r => fin C call n base k (thenN r fun ρ H => if apartT ps ρ then some (.normal, ρ, H) else none)

section
variable {C : Cfg} {P : Program} {t' : TypeId} {call : Nat → CallF} {base n : Nat} {dr : Bool} {all : Array Oper} {gs : List (Option Tmp)} {ρ : Env} {H : Heap} {r : List Oper} {d : Option Tmp} {t u : TypeId} {p : String} {e : Array Edge} {k : List It} {a b c : Code} {id i : Nat}

def run1 (C : Cfg) (call : Nat → CallF) (n base : Nat) (f : FuncId) (m : Nat) (res : List ResultVar) : St → Option (Value × Heap)
  | some (.normal, ρ, H) | some (.ret, ρ, H) => (resA C.P ρ H res).bind fun vs => handBack C f m vs H
  | _ => none
theorem run_at {f : FuncId} {fn : Func} (hf : C.P.funcs[f]? = some fn) (hfr : C.frn f = none) {k base : Nat} {args : List Value} : run C (k + 1) base f args H = (fn.body).bind fun c => if fn.name == "runtime.NumGoroutine" then none else
    run1 C (run C k) k (if C.wr f then base else H.length) f H.length fn.results.toList (fin C (run C k) k (if C.wr f then base else H.length) [.code c] (some (.normal, args ++ List.replicate (fn.ntmps - args.length) undef, H))) := by
  simp only [run, hfr, hf, Option.bind_some]
  congr 1
  funext c
  split
  · rfl
  · unfold body
    simp only [fin, thenN, Option.bind_some]
    cases h : exec C (run C k) k (if C.wr f = true then base else List.length H) c (args ++ List.replicate (fn.ntmps - args.length) undef) H with
    | none => rfl
    | some x => obtain ⟨x, ρ', H'⟩ := x; cases x <;> rfl

theorem run_fn {f : FuncId} {fn : Func} {c : Code} {res : List ResultVar} {m : Nat} (hf : C.P.funcs[f]? = some fn) (hb : fn.body = some c) (hn : (fn.name == "runtime.NumGoroutine") = false) (hr : fn.results.toList = res) (hm : fn.ntmps = m) (k base : Nat) (args : List Value) (H : Heap) (hfr : C.frn f = none) :
    run C (k + 1) base f args H = run1 C (run C k) k (if C.wr f then base else H.length) f H.length res (fin C (run C k) k (if C.wr f then base else H.length) [.code c] (some (.normal, args ++ List.replicate (m - args.length) undef, H))) := by
  subst hr hm
  rw [run_at hf hfr, hb, Option.bind_some, if_neg (by rw [hn]; decide)]
@[go_sem] theorem fin_nil (s : St) : fin C call n base [] s = s := Eq.trans rfl rfl
@[go_sem] theorem fin_none : ∀ k, fin C call n base k none = none
  | [] => rfl
  | .code c :: k => fin_none k
  | .blk id :: k => fin_none k
  | .lp c ks m :: k => fin_none k
  | .ops dr gs l :: k => fin_none k
  | .ap ps :: k => fin_none k
@[go_sem] theorem fin_code : fin C call n base (.code c :: k) (some (.normal, ρ, H)) = fin C call n base k (exec C call n base c ρ H) := Eq.trans rfl rfl
@[go_sem] theorem fin_seq : fin C call n base k (exec C call n base (.seq a b) ρ H) = fin C call n base (.code b :: k) (exec C call n base a ρ H) := by
  show _ = fin C call n base k (thenN (exec C call n base a ρ H) (exec C call n base b)); congr 1
@[go_sem] theorem fin_skip : fin C call n base k (exec C call n base .skip ρ H) = fin C call n base k (some (.normal, ρ, H)) := Eq.trans rfl rfl
@[go_sem] theorem fin_ret : fin C call n base k (exec C call n base .ret ρ H) = fin C call n base k (some (.ret, ρ, H)) := Eq.trans rfl rfl
@[go_sem] theorem fin_exit : fin C call n base k (exec C call n base (.exit id) ρ H) = fin C call n base k (some (.exit id, ρ, H)) := Eq.trans rfl rfl
@[go_sem] theorem fin_block : fin C call n base k (exec C call n base (.block id c) ρ H) = fin C call n base (.blk id :: k) (exec C call n base c ρ H) := by
  show fin C call n base k ((exec C call n base c ρ H).map _) = fin C call n base k ((exec C call n base c ρ H).map _)
  congr 2
theorem fin_loop : fin C call n base k (exec C call n base (.loop c) ρ H) = fin C call n base (.lp c (killed c) n :: k) (some (.normal, ρ, H)) := Eq.trans rfl rfl
@[go_sem] theorem fin_reg : fin C call n base k (exec C call n base (.region id all false) ρ H) = fin C call n base (.ops false (all.toList.map (·.dst)) (all.toList.map slim) :: k) (some (.normal, ρ, H)) := by
  show fin C call n base k _ = fin C call n base k _
  congr 1
  simp only [thenN, Option.bind_some, runG_eq]
  rfl
theorem fin_regl {ps : List (Tmp × Tmp)} (h : loose C all = some ps) : fin C call n base k (exec C call n base (.region id all true) ρ H) = fin C call n base (.ops true (all.toList.map (·.dst)) (all.toList.map slim) :: .ap ps :: k) (some (.normal, ρ, H)) := by
  show fin C call n base k _ = fin C call n base k _
  congr 1
  simp only [exec, if_true, h, thenN, Option.bind_some, runG_eq]
  cases runOps C call base true all all.toList ρ H <;> rfl
/-- Two places stand in two blocks, or the proof stops here. -/
def apOr : Bool → St → St
  | true, s => s
  | false, _ => none
@[go_sem] theorem apOr_t (s : St) : apOr true s = s := rfl
@[go_sem] theorem fin_ap {ps : List (Tmp × Tmp)} : fin C call n base (.ap ps :: k) (some (.normal, ρ, H)) = apOr (apartT ps ρ) (fin C call n base k (some (.normal, ρ, H))) := by
  show fin C call n base k _ = _
  simp only [thenN, Option.bind_some]
  cases apartT ps ρ with
  | true => rfl
  | false => exact fin_none k
@[go_sem] theorem bn_nil : apartT [] ρ = true := rfl
@[go_sem] theorem bn_cons {x y : Tmp} {ps : List (Tmp × Tmp)} : apartT ((x, y) :: ps) ρ = (blkNe (ρ.getD x undef) (ρ.getD y undef) && apartT ps ρ) := rfl
@[go_sem] theorem bn_pp {b o b' o' : Nat} {z z' : Option Nat} : blkNe (.pointer (some ⟨b, o, z⟩)) (.pointer (some ⟨b', o', z'⟩)) = decide (b ≠ b') := rfl
@[go_sem] theorem bn_ps {b o b' o' m c : Nat} {z z' : Option Nat} : blkNe (.pointer (some ⟨b, o, z⟩)) (.slice (some ⟨b', o', z'⟩) m c) = decide (b ≠ b') := rfl
@[go_sem] theorem bn_pn {b o m c : Nat} {z : Option Nat} : blkNe (.pointer (some ⟨b, o, z⟩)) (.slice none m c) = true := rfl
@[go_sem] theorem bn_l {vs : Array Value} {v : Value} : blkNe (.tuple vs) v = true := by unfold blkNe; cases v <;> rfl
@[go_sem] theorem bn_r {vs : Array Value} {v : Value} : blkNe v (.tuple vs) = true := by unfold blkNe; cases v <;> first | rfl | (rename_i a; cases a <;> rfl)
theorem fin_regd (h : loose C all = some []) : fin C call n base k (exec C call n base (.region id all true) ρ H) = fin C call n base (.ops true (all.toList.map (·.dst)) (all.toList.map slim) :: k) (some (.normal, ρ, H)) := by
  rw [fin_regl h]
  show fin C call n base k _ = fin C call n base k _
  congr 1
  simp only [thenN]
  cases (some (Ex.normal, ρ, H) : St).bind (fun x => match x with | (.normal, ρ, H) => (runG C call base true (all.toList.map (·.dst)) (all.toList.map slim) ρ H).map fun x => (Ex.normal, x.1, x.2) | x => some x) with
  | none => rfl
  | some x => obtain ⟨x, ρ, H⟩ := x; cases x <;> rfl
/-- A branch whose test is not known yet. -/
def br (C : Cfg) (call : Nat → CallF) (n base : Nat) (k : List It) (a b : Code) (ρ : Env) (H : Heap) : Value → St
  | .bool true => fin C call n base k (exec C call n base a ρ H)
  | .bool false => fin C call n base k (exec C call n base b ρ H)
  | _ => none
@[go_sem] theorem br_t : br C call n base k a b ρ H (.bool true) = fin C call n base k (exec C call n base a ρ H) := Eq.trans rfl rfl
@[go_sem] theorem br_f : br C call n base k a b ρ H (.bool false) = fin C call n base k (exec C call n base b ρ H) := Eq.trans rfl rfl
@[go_sem] theorem fin_cond {x : Operand} : fin C call n base k (exec C call n base (.cond x a b) ρ H) = br C call n base k a b ρ H (ev ρ x) := by
  simp only [exec]
  split
  · rename_i q h; rw [h]; cases q <;> rfl
  · rename_i h
    unfold br
    split
    · rename_i h2; exact absurd h2 (h true)
    · rename_i h2; exact absurd h2 (h false)
    · exact fin_none k
-- leaving
@[go_sem] theorem fin_code_exit : fin C call n base (.code c :: k) (some (.exit i, ρ, H)) = fin C call n base k (some (.exit i, ρ, H)) := Eq.trans rfl rfl
@[go_sem] theorem fin_code_ret : fin C call n base (.code c :: k) (some (.ret, ρ, H)) = fin C call n base k (some (.ret, ρ, H)) := Eq.trans rfl rfl
@[go_sem] theorem fin_blk_normal : fin C call n base (.blk id :: k) (some (.normal, ρ, H)) = fin C call n base k (some (.normal, ρ, H)) := Eq.trans rfl rfl
@[go_sem] theorem fin_blk_ret : fin C call n base (.blk id :: k) (some (.ret, ρ, H)) = fin C call n base k (some (.ret, ρ, H)) := Eq.trans rfl rfl
@[go_sem] theorem fin_blk_exit : fin C call n base (.blk id :: k) (some (.exit i, ρ, H)) = fin C call n base k (some (if i = id then .normal else .exit i, ρ, H)) := Eq.trans rfl rfl
@[go_sem] theorem fin_lp_exit {ks : List Tmp} {m : Nat} : fin C call n base (.lp c ks m :: k) (some (.exit i, ρ, H)) = fin C call n base k (some (.exit i, ρ, H)) := Eq.trans rfl rfl
@[go_sem] theorem fin_lp_ret {ks : List Tmp} {m : Nat} : fin C call n base (.lp c ks m :: k) (some (.ret, ρ, H)) = fin C call n base k (some (.ret, ρ, H)) := Eq.trans rfl rfl
theorem fin_lp {ks : List Tmp} {m : Nat} : fin C call n base (.lp c ks (m + 1) :: k) (some (.normal, ρ, H)) = fin C call n base (.code c :: .lp c ks m :: k) (some (.normal, wipe ks ρ, H)) := by
  show fin C call n base k _ = fin C call n base k _
  congr 1
-- operations
@[go_sem] theorem fin_ops_nil : fin C call n base (.ops dr gs [] :: k) (some (.normal, ρ, H)) = fin C call n base k (some (.normal, ρ, H)) := Eq.trans rfl rfl
def put1 (C : Cfg) (call : Nat → CallF) (n base : Nat) (dr : Bool) (gs : List (Option Tmp)) (r : List Oper) (k : List It) (ρ : Env) (d : Option Tmp) : Option (Value × Heap) → St
  | some (v, H) => fin C call n base (.ops dr gs r :: k) (some (.normal, putA ρ d v, H))
  | none => none
theorem ro_put (x : Option (Value × Heap)) : fin C call n base k (((x.bind fun y => runG C call base dr gs r (putA ρ d y.1) y.2)).map fun x => (Ex.normal, x.1, x.2)) = put1 C call n base dr gs r k ρ d x := by
  cases x with
  | none => exact fin_none k
  | some y => rfl
@[go_sem] theorem fin_op {o : Op} : fin C call n base (.ops dr gs (⟨d, o, t, p, e, none⟩ :: r) :: k) (some (.normal, ρ, H)) = put1 C call n base dr gs r k ρ d (evalOp C call base dr ⟨d, o, t, p, e, none⟩ ρ H) := ro_put _
/-- An operation under a guard that is not known yet. -/
def brg (C : Cfg) (call : Nat → CallF) (n base : Nat) (dr : Bool) (gs : List (Option Tmp)) (r : List Oper) (k : List It) (ρ : Env) (H : Heap) (o : Oper) (w : Bool) : Value → St
  | .bool true => if w then put1 C call n base dr gs r k ρ o.dst (evalOp C call base dr o ρ H) else fin C call n base (.ops dr gs r :: k) (some (.normal, putA ρ o.dst sk, H))
  | .bool false => if w then fin C call n base (.ops dr gs r :: k) (some (.normal, putA ρ o.dst sk, H)) else put1 C call n base dr gs r k ρ o.dst (evalOp C call base dr o ρ H)
  | .chan _ => fin C call n base (.ops dr gs r :: k) (some (.normal, putA ρ o.dst sk, H))
  | _ => none
@[go_sem] theorem brg_t {o : Oper} : brg C call n base dr gs r k ρ H o true (.bool true) = put1 C call n base dr gs r k ρ o.dst (evalOp C call base dr o ρ H) := Eq.trans rfl rfl
@[go_sem] theorem brg_f {o : Oper} : brg C call n base dr gs r k ρ H o true (.bool false) = fin C call n base (.ops dr gs r :: k) (some (.normal, putA ρ o.dst sk, H)) := Eq.trans rfl rfl
@[go_sem] theorem brg_sk {o : Oper} {w : Bool} {q : Option Nat} : brg C call n base dr gs r k ρ H o w (.chan q) = fin C call n base (.ops dr gs r :: k) (some (.normal, putA ρ o.dst sk, H)) := Eq.trans rfl rfl
theorem brg_t' {o : Oper} : brg C call n base dr gs r k ρ H o false (.bool true) = fin C call n base (.ops dr gs r :: k) (some (.normal, putA ρ o.dst sk, H)) := Eq.trans rfl rfl
theorem brg_f' {o : Oper} : brg C call n base dr gs r k ρ H o false (.bool false) = put1 C call n base dr gs r k ρ o.dst (evalOp C call base dr o ρ H) := Eq.trans rfl rfl
def gval (ρ : Env) : Option (Option Tmp) → Value
  | some (some g) => ρ.getD g undef
  | _ => undef
@[go_sem] theorem gval_s (g : Tmp) : gval ρ (some (some g)) = ρ.getD g undef := rfl
theorem fin_opg' {o : Op} {j : Nat} {w : Bool} {g : Tmp} (h : (gs[j]?).join = some g) : fin C call n base (.ops dr gs (⟨d, o, t, p, e, some (j, w)⟩ :: r) :: k) (some (.normal, ρ, H)) = brg C call n base dr gs r k ρ H ⟨d, o, t, p, e, some (j, w)⟩ w (ρ.getD g undef) := by
  show fin C call n base k _ = _
  simp only [thenN, Option.bind_some, runG, wantG, h]
  cases hg : ρ[g]? with
  | none =>
    rw [List.getD_eq_getElem?_getD, hg]
    exact fin_none k
  | some v =>
    rw [List.getD_eq_getElem?_getD, hg]
    cases v <;> first | exact fin_none k | skip
    · rename_i q
      simp only [Option.getD_some, Option.bind_some]
      cases q <;> cases w <;> first | exact ro_put _ | rfl
    · rfl
@[go_sem] theorem fin_opg {o : Op} {j : Nat} {w : Bool} : fin C call n base (.ops dr gs (⟨d, o, t, p, e, some (j, w)⟩ :: r) :: k) (some (.normal, ρ, H)) = brg C call n base dr gs r k ρ H ⟨d, o, t, p, e, some (j, w)⟩ w (gval ρ gs[j]?) := by
  cases h : gs[j]? with
  | none =>
    show fin C call n base k _ = _
    simp only [thenN, Option.bind_some, runG, wantG, h]
    exact fin_none k
  | some g =>
    cases g with
    | none =>
      show fin C call n base k _ = _
      simp only [thenN, Option.bind_some, runG, wantG, h]
      exact fin_none k
    | some g => exact fin_opg' (by rw [h]; rfl)
@[go_sem] theorem put_some {v : Value} : put1 C call n base dr gs r k ρ d (some (v, H)) = fin C call n base (.ops dr gs r :: k) (some (.normal, putA ρ d v, H)) := Eq.trans rfl rfl

@[go_sem] theorem ev_tmp (i : Tmp) : ev ρ (.tmp i) = ρ.getD i undef := rfl
@[go_sem] theorem ev_int (k : IntKind) (n : Int) : ev ρ (.const (.int k n)) = .int k n := rfl
@[go_sem] theorem ev_bool (b : Bool) : ev ρ (.const (.bool b)) = .bool b := rfl
@[go_sem] theorem ev_str (s : ByteArray) : ev ρ (.const (.string s)) = .string s := rfl
@[go_sem] theorem ev_nil : ev ρ (.const (.slice none 0 0)) = .slice none 0 0 := rfl
@[go_sem] theorem ev_func (f : FuncId) : ev ρ (.func f) = .func (.func f) #[] #[] := rfl
@[go_sem] theorem putA_some (i : Tmp) (v : Value) : putA ρ (some i) v = List.set ρ i v := rfl
@[go_sem] theorem putA_none (v : Value) : putA ρ none v = ρ := rfl

-- each operation
section
variable {o : Oper} {g : Option (Nat × Bool)}
@[go_sem] theorem eo_move {x : Operand} : evalOp C call base dr ⟨d, .move x, t, p, e, g⟩ ρ H = some (ev ρ x, H) := rfl
@[go_sem] theorem eo_assign {x : Operand} : evalOp C call base dr ⟨d, .assign x, t, p, e, g⟩ ρ H = some (ev ρ x, H) := rfl
def pick1 (H : Heap) (a b : Value) : Value → Option (Value × Heap)
  | .bool true => some (a, H)
  | .bool false => some (b, H)
  | _ => none
@[go_sem] theorem eo_pick {c x y : Operand} : evalOp C call base dr ⟨d, .pick c x y, t, p, e, g⟩ ρ H = pick1 H (ev ρ x) (ev ρ y) (ev ρ c) := by
  unfold evalOp
  simp only
  split
  · rename_i q h; rw [h]; cases q <;> rfl
  · rename_i h
    unfold pick1
    split
    · rename_i h2; exact absurd h2 (h true)
    · rename_i h2; exact absurd h2 (h false)
    · rfl
@[go_sem] theorem pick_t {a b : Value} : pick1 H a b (.bool true) = some (a, H) := rfl
@[go_sem] theorem pick_f {a b : Value} : pick1 H a b (.bool false) = some (b, H) := rfl
@[go_sem] theorem pick_b {q a b : Bool} : pick1 H (.bool a) (.bool b) (.bool q) = some (.bool (bif q then a else b), H) := by cases q <;> rfl
/-- Two whole numbers under an operation. -/
def bin2 (P : Program) (ρ : Env) (o : Oper) (H : Heap) (op : BinOp) (x y : Value) : Option (Value × Heap) := valH H (binA P ρ o op x y)
@[go_sem] theorem eo_bin {op : BinOp} {x y : Operand} : evalOp C call base dr ⟨d, .binOp op t x y u, t', p, e, g⟩ ρ H = bin2 C.P ρ ⟨d, .binOp op t x y u, t', p, e, g⟩ H op (ev ρ x) (ev ρ y) := rfl
@[go_sem] theorem b_add {K : IntKind} {x y : Int} : bin2 P ρ o H .add (.int K x) (.int K y) = some (.int K (K.wrap (x + y)), H) := by simp [bin2, binA, isSh, binI, valH]
@[go_sem] theorem b_sub {K : IntKind} {x y : Int} : bin2 P ρ o H .sub (.int K x) (.int K y) = some (.int K (K.wrap (x - y)), H) := by simp [bin2, binA, isSh, binI, valH]
@[go_sem] theorem b_mul {K : IntKind} {x y : Int} : bin2 P ρ o H .mul (.int K x) (.int K y) = some (.int K (K.wrap (x * y)), H) := by simp [bin2, binA, isSh, binI, valH]
@[go_sem] theorem b_eq {K : IntKind} {x y : Int} : bin2 P ρ o H .eql (.int K x) (.int K y) = some (.bool (x == y), H) := by simp [bin2, binA, isSh, binI, valH]
@[go_sem] theorem b_ne {K : IntKind} {x y : Int} : bin2 P ρ o H .neq (.int K x) (.int K y) = some (.bool (x != y), H) := by simp [bin2, binA, isSh, binI, valH]
@[go_sem] theorem b_lt {K : IntKind} {x y : Int} : bin2 P ρ o H .lss (.int K x) (.int K y) = some (.bool (decide (x < y)), H) := by simp [bin2, binA, isSh, binI, valH]
@[go_sem] theorem b_le {K : IntKind} {x y : Int} : bin2 P ρ o H .leq (.int K x) (.int K y) = some (.bool (decide (x ≤ y)), H) := by simp [bin2, binA, isSh, binI, valH]
@[go_sem] theorem b_gt {K : IntKind} {x y : Int} : bin2 P ρ o H .gtr (.int K x) (.int K y) = some (.bool (decide (y < x)), H) := by simp [bin2, binA, isSh, binI, valH]
@[go_sem] theorem b_ge {K : IntKind} {x y : Int} : bin2 P ρ o H .geq (.int K x) (.int K y) = some (.bool (decide (y ≤ x)), H) := by simp [bin2, binA, isSh, binI, valH]
theorem b_rem {K : IntKind} {x y : Int} (h : y ≠ 0) : bin2 P ρ o H .rem (.int K x) (.int K y) = some (.int K (x.tmod y), H) := by simp [bin2, binA, isSh, binI, valH, h]
theorem b_quo {K : IntKind} {x y : Int} (h : y ≠ 0) : bin2 P ρ o H .quo (.int K x) (.int K y) = some (.int K (K.wrap (x.tdiv y)), H) := by simp [bin2, binA, isSh, binI, valH, h]
theorem b_and {K : IntKind} {x y : Int} : bin2 P ρ o H .and (.int K x) (.int K y) = some (.int K (K.wrap (BitVec.ofInt K.bits x &&& BitVec.ofInt K.bits y).toNat), H) := by simp [bin2, binA, isSh, binI, valH]
theorem b_or {K : IntKind} {x y : Int} : bin2 P ρ o H .or (.int K x) (.int K y) = some (.int K (K.wrap (BitVec.ofInt K.bits x ||| BitVec.ofInt K.bits y).toNat), H) := by simp [bin2, binA, isSh, binI, valH]
theorem b_shl {K K' : IntKind} {x y : Int} (h : 0 ≤ y) : bin2 P ρ o H .shl (.int K x) (.int K' y) = some (.int K (K.wrap (x * 2 ^ (min y.toNat K.bits))), H) := by simp [bin2, binA, isSh, shI, valH, show ¬ y < 0 by omega]
theorem b_shr {K K' : IntKind} {x y : Int} (h : 0 ≤ y) : bin2 P ρ o H .shr (.int K x) (.int K' y) = some (.int K (x.fdiv (2 ^ (min y.toNat K.bits))), H) := by simp [bin2, binA, isSh, shI, valH, show ¬ y < 0 by omega]
def not1 (H : Heap) : Value → Option (Value × Heap)
  | .bool b => some (.bool !b, H)
  | _ => none
@[go_sem] theorem eo_not {x : Operand} : evalOp C call base dr ⟨d, .unOp .not t x, u, p, e, g⟩ ρ H = not1 H (ev ρ x) := by
  cases h : ev ρ x <;> simp [evalOp, not1, h]
@[go_sem] theorem not_b {b : Bool} : not1 H (.bool b) = some (.bool !b, H) := rfl
theorem eo_call {f : FuncId} {as : Array Operand} {ts : Array TypeId} (hx : C.ext f = false) : evalOp C call base false ⟨d, .call ⟨.value (.func f), as, ts⟩, u, p, e, g⟩ ρ H = call base f (as.toList.map (ev ρ)) H := by
  simp [evalOp, extF, hx, callA, ev]
theorem eo_calld {f : FuncId} {as : Array Operand} {ts : Array TypeId} (hx : C.ext f = false) : evalOp C call base true ⟨d, .call ⟨.value (.func f), as, ts⟩, u, p, e, g⟩ ρ H = call base f (as.toList.map (ev ρ)) H := by
  simp [evalOp, extF, hx, callA, ev, isStat]
def ext1 (H : Heap) (i : Nat) : Value → Option (Value × Heap)
  | .tuple vs => valH H vs[i]?
  | _ => none
@[go_sem] theorem eo_extract {x : Operand} {i : Nat} : evalOp C call base dr ⟨d, .extract x i, u, p, e, g⟩ ρ H = ext1 H i (ev ρ x) := by
  cases h : ev ρ x <;> simp [evalOp, ext1, h]
theorem ext_t {vs : Array Value} {i : Nat} {v : Value} (h : vs[i]? = some v) : ext1 H i (.tuple vs) = some (v, H) := by simp [ext1, h, valH]
end

-- results
section
variable {f : FuncId} {m : Nat} {vs : List Value} {old acc : Heap} {res : List ResultVar} {x y z : Value} {L : Heap}
@[go_sem] theorem r1_ret : run1 C call n base f m res (some (.ret, ρ, H)) = (resA C.P ρ H res).bind fun vs => handBack C f m vs H := Eq.trans rfl rfl
@[go_sem] theorem r1_normal : run1 C call n base f m res (some (.normal, ρ, H)) = (resA C.P ρ H res).bind fun vs => handBack C f m vs H := Eq.trans rfl rfl
@[go_sem] theorem res_nil : resA P ρ H [] = some [] := rfl
@[go_sem] theorem res_tmp {i : Tmp} {l : List ResultVar} : resA P ρ H (.tmp i :: l) = (resA P ρ H l).map (ρ.getD i undef :: ·) := rfl
theorem hb_flat (h : (C.raw f || C.wr f) = false) : handBack C f m vs H = (takeVals C.P m vs H (H.take m)).map fun x => (tupA x.1, x.2.2) := by unfold handBack; rw [h]; rfl
theorem hb_raw (h : (C.raw f || C.wr f) = true) : handBack C f m vs H = some (tupA vs, H) := by unfold handBack; rw [h]; rfl
@[go_sem] theorem tv_nil : takeVals P m [] old acc = some ([], old, acc) := rfl
@[go_sem] theorem tv_bool {b : Bool} {l : List Value} : takeVals P m (.bool b :: l) old acc = (takeVals P m l old acc).map fun y => (.bool b :: y.1, y.2) := rfl
@[go_sem] theorem tv_int {K : IntKind} {b : Int} {l : List Value} : takeVals P m (.int K b :: l) old acc = (takeVals P m l old acc).map fun y => (.int K b :: y.1, y.2) := rfl
@[go_sem] theorem tv_str {b : ByteArray} {l : List Value} : takeVals P m (.string b :: l) old acc = (takeVals P m l old acc).map fun y => (.string b :: y.1, y.2) := rfl
@[go_sem] theorem tv_snil {l : List Value} : takeVals P m (.slice none 0 0 :: l) old acc = (takeVals P m l old acc).map fun y => (.slice none 0 0 :: y.1, y.2) := rfl
theorem tv_sl {b o es q c : Nat} {l : List Value} {T : TypeId} {cs : List Value} (hb : m ≤ b) (hg : hget old b = some (T, cs)) (h1 : o + q * es ≤ cs.length) (h2 : tySize P T = some es) (h3 : ((cs.drop o).take (q * es)).all isG = true) :
    takeVals P m (.slice (some ⟨b, o, some es⟩) q c :: l) old acc = (takeVals P m l (old.set b none) (acc ++ [some (T, (cs.drop o).take (q * es))])).map fun y => (.slice (some ⟨acc.length, 0, some es⟩) q q :: y.1, y.2) := by
  have e : takeOne P m (.slice (some ⟨b, o, some es⟩) q c) old acc = some (.slice (some ⟨acc.length, 0, some es⟩) q q, old.set b none, acc ++ [some (T, (cs.drop o).take (q * es))]) := by
    unfold takeOne
    simp only [if_neg (show ¬ b < m by omega), hg, Option.bind_some, h1, h2, h3, and_self, if_true]
  show (takeVal P m _ old acc).bind _ = _
  unfold takeVal
  simp only [e, Option.bind_some]
@[go_sem] theorem tup_1 : tupA [x] = x := rfl
@[go_sem] theorem tup_2 : tupA [x, y] = .tuple #[x, y] := rfl
@[go_sem] theorem tup_3 : tupA [x, y, z] = .tuple #[x, y, z] := rfl
@[go_sem] theorem tup_0 : tupA [] = .tuple #[] := rfl
-- memory
theorem hget_0 {b : Option (TypeId × List Value)} : hget (H ++ b :: L) H.length = b := by simp [hget]
theorem hget_1 {a b : Option (TypeId × List Value)} : hget (H ++ a :: b :: L) (H.length + 1) = b := by simp [hget]
theorem hget_2 {a a' b : Option (TypeId × List Value)} : hget (H ++ a :: a' :: b :: L) (H.length + 2) = b := by simp [hget]
theorem hget_old {b : Nat} {c : TypeId × List Value} (h : hget H b = some c) (L : Heap) : hget (H ++ L) b = some c := by
  unfold hget at h ⊢
  have hb : b < H.length := by
    rcases Nat.lt_or_ge b H.length with h1 | h1
    · exact h1
    · rw [List.getElem?_eq_none h1] at h; cases h
  rw [List.getElem?_append_left hb]; exact h
end

-- loops
section
variable {f : FuncId} {m0 : Nat} {res : List ResultVar} {ks : List Tmp} {q : Option (Value × Heap)}
theorem fin_loopk (ks : List Tmp) (h : killed c = ks) : fin C call n base k (exec C call n base (.loop c) ρ H) = fin C call n base (.lp c ks n :: k) (some (.normal, ρ, H)) := by subst h; exact fin_loop
@[go_sem] theorem wipe_cons {i : Tmp} : wipe (i :: ks) ρ = wipe ks (List.set ρ i undef) := rfl
@[go_sem] theorem wipe_nil : wipe [] ρ = ρ := rfl
def putL : Env → List Tmp → List Value → Env
  | ρ, t :: ts, v :: vs => putL (List.set ρ t v) ts vs
  | ρ, _, _ => ρ
@[go_sem] theorem putL_cons {i : Tmp} {ts : List Tmp} {v : Value} {vs : List Value} : putL ρ (i :: ts) (v :: vs) = putL (List.set ρ i v) ts vs := rfl
@[go_sem] theorem putL_nil {vs : List Value} : putL ρ [] vs = ρ := by cases vs <;> rfl
/-- A loop: what its slots 'sl' hold at each round's head, 'j' rounds at most being left. -/
theorem lp_run (sl : List Tmp) (I : Nat → List Value → Heap → Prop)
    (step : ∀ (j m : Nat) (vs : List Value) (H : Heap), I j vs H → (∀ (j' : Nat) (vs' : List Value) (ρ' : Env) (H' : Heap), j' < j → wipe ks ρ' = putL (wipe ks ρ) sl vs' → I j' vs' H' → run1 C call n base f m0 res (fin C call n base (.lp c ks m :: k) (some (.normal, ρ', H'))) = q) →
      run1 C call n base f m0 res (fin C call n base (.code c :: .lp c ks m :: k) (some (.normal, putL (wipe ks ρ) sl vs, H))) = q)
    (j : Nat) (vs : List Value) {m : Nat} (hm : j < m) (hw : wipe ks ρ = putL (wipe ks ρ) sl vs) (h : I j vs H) : run1 C call n base f m0 res (fin C call n base (.lp c ks m :: k) (some (.normal, ρ, H))) = q := by
  have key : ∀ (j : Nat) (vs : List Value) (ρ' : Env) (H : Heap) (m : Nat), j < m → wipe ks ρ' = putL (wipe ks ρ) sl vs → I j vs H → run1 C call n base f m0 res (fin C call n base (.lp c ks m :: k) (some (.normal, ρ', H))) = q := by
    intro j
    induction j using Nat.strongRecOn with
    | _ j ih =>
      intro vs ρ' H m hm hw h
      obtain ⟨m, rfl⟩ : ∃ m', m = m' + 1 := ⟨m - 1, by omega⟩
      rw [fin_lp, hw]
      exact step j m vs H h fun j' vs' ρ'' H' hj hw' h' => ih j' hj vs' ρ'' H' m (by omega) hw' h'
  exact key j vs ρ H m hm hw h
end
-- rows
section
@[go_sem] theorem eo_buildSlice {len : Nat} {ps : Array (Nat × Operand)} {g : Option (Nat × Bool)} : evalOp C call base dr ⟨d, .buildSlice t len ps, u, p, e, g⟩ ρ H = buildSliceA C.P H t len (ps.toList.map fun p => (p.1, ev ρ p.2)) := rfl
/-- A type as the machine asks for it: a slice's element, its cells, its zero. -/
structure TyS (P : Program) (t el es : Nat) (z : Value) : Prop where
  elem : tyElem P t = some el
  size : tySize P el = some es
  zero : tyZero P el = some z
  ok : isC z = true ∧ 0 < es ∧ z.cells.size = es
  bytes : (P.info? el).any (fun i => i.bytes ≤ 1024 ∧ 0 < i.bytes) = true
theorem bs_nil {el es : Nat} {z : Value} (h : TyS P t el es z) : buildSliceA P H t 0 [] = some (.slice (some ⟨H.length, 0, some es⟩) 0 0, H ++ [some (el, [])]) := by
  unfold buildSliceA
  simp only [h.elem, h.size, h.zero, Option.bind_some, h.ok, true_and, Nat.zero_mul, Nat.zero_le, and_self, if_true, List.replicate_zero, List.flatten_nil, fillA, Option.map_some]
theorem bs_one {el : Nat} {z x : Value} (h : TyS P t el 1 z) (hx : x.cells = #[x]) (hc : isCell x = true) : buildSliceA P H t 1 [(0, x)] = some (.slice (some ⟨H.length, 0, some 1⟩) 1 1, H ++ [some (el, [x])]) := by
  have hz := h.ok.2.2
  obtain ⟨y, hy⟩ : ∃ y, z.cells.toList = [y] := by
    cases hq : z.cells.toList with
    | nil => have : z.cells.size = 0 := by rw [← Array.length_toList, hq]; rfl
             omega
    | cons y l =>
      cases l with
      | nil => exact ⟨y, rfl⟩
      | cons y2 l => have : z.cells.size = l.length + 2 := by rw [← Array.length_toList, hq]; rfl
                     omega
  unfold buildSliceA
  simp only [h.elem, h.size, h.zero, Option.bind_some, h.ok, true_and, fillA, hx, hy]
  simp [setAll, hc]
end

-- append
section
variable {el es : Nat} {z : Value}
theorem ap_eq (h : TyS P t el es z) {b m m2 : Nat} {T : TypeId} {cs ys : List Value} {x : Value} (hb : base ≤ b) (hg : hget H b = some (T, cs)) (hl : cs.length = m * es) (hy : cellsA H es x = some (m2, ys)) (h0 : m2 ≠ 0) (hr : m + m2 ≤ room) :
    appendA P base H t (.slice (some ⟨b, 0, some es⟩) m m) x = some (.slice (some ⟨H.length, 0, some es⟩) (m + m2) (m + m2), H.set b none ++ [some (T, cs ++ ys)]) := by
  have hz : (tyZero P el).any (fun z => decide (z.cells.size = es ∧ isC z = true)) = true := by rw [h.zero]; simp [h.ok]
  have hb2 := h.bytes
  unfold appendA
  simp only [h.elem, h.size, Option.bind_some, hy, hb2, h.ok, hz, true_and, and_self, if_true]
  rw [if_neg (by simp), if_neg h0, if_pos hb, hg, Option.bind_some, if_neg (by omega), if_pos (by simp [hl]; exact hr)]
  simp
theorem ap_nil (h : TyS P t el es z) {m2 : Nat} {ys : List Value} {x : Value} (hy : cellsA H es x = some (m2, ys)) (h0 : m2 ≠ 0) (hr : m2 ≤ room) :
    appendA P base H t (.slice none 0 0) x = some (.slice (some ⟨H.length, 0, some es⟩) m2 m2, H ++ [some (el, ys)]) := by
  have hz : (tyZero P el).any (fun z => decide (z.cells.size = es ∧ isC z = true)) = true := by rw [h.zero]; simp [h.ok]
  have hb2 := h.bytes
  unfold appendA
  simp only [h.elem, h.size, Option.bind_some, hy, hb2, h.ok, hz, true_and, and_self, if_true]
  rw [if_neg h0, if_pos hr]
theorem eo_append {x y : Operand} {t1 t2 : TypeId} {g : Option (Nat × Bool)} (h : notInt C.P t2 = true) : evalOp C call base dr ⟨d, .call ⟨.builtin .append, #[x, y], #[t1, t2]⟩, u, p, e, g⟩ ρ H = appendA C.P base H t1 (ev ρ x) (ev ρ y) := by
  simp [evalOp, builtinA, h]
/-- A window of a block, as a slice shows it. -/
theorem cellsA_new {b m c : Nat} {T : TypeId} {cs : List Value} (hg : hget H b = some (T, cs)) (hl : cs.length = m * es) : cellsA H es (.slice (some ⟨b, 0, some es⟩) m c) = some (m, cs) := by
  simp [cellsA, hg, hl, List.take_of_length_le (Nat.le_of_eq hl)]
theorem keeps_hget {k b : Nat} {H' : Heap} (h : Keeps k H H') (hb : b < k) : hget H' b = hget H b := by unfold hget; rw [h.2 b hb]
theorem take_keeps {H' : Heap} (h : Keeps H.length H H') : H'.take H.length = H := by obtain ⟨F, rfl⟩ := keeps_append h; simp
end

section
/-- A list that the function itself has made, handed back. -/
theorem tv_own {es b m : Nat} {T : TypeId} {cs l : List Value} {old acc : Heap} {k0 : Nat} (hb : k0 ≤ b) (hg : hget old b = some (T, cs)) (hl : cs.length = m * es) (ht : tySize P T = some es) (hG : cs.all isG = true) :
    takeVals P k0 (.slice (some ⟨b, 0, some es⟩) m m :: l) old acc = (takeVals P k0 l (old.set b none) (acc ++ [some (T, cs)])).map fun y => (.slice (some ⟨acc.length, 0, some es⟩) m m :: y.1, y.2) := by
  have e : (cs.drop 0).take (m * es) = cs := by simp [List.take_of_length_le (Nat.le_of_eq hl)]
  rw [tv_sl hb hg (by omega) ht (by rw [e]; exact hG), e]
/-- One more element. -/
theorem ap_one {el es b m : Nat} {z : Value} {T : TypeId} {cs ys : List Value} (h : TyS P t el es z) (hb : base ≤ b) (hg : hget H b = some (T, cs)) (hl : cs.length = m * es) (hy : ys.length = es) (hr : m + 1 ≤ room) :
    appendA P base (H ++ [some (el, ys)]) t (.slice (some ⟨b, 0, some es⟩) m m) (.slice (some ⟨H.length, 0, some es⟩) 1 1) = some (.slice (some ⟨H.length + 1, 0, some es⟩) (m + 1) (m + 1), (H ++ [some (el, ys)]).set b none ++ [some (T, cs ++ ys)]) := by
  have := ap_eq h (H := H ++ [some (el, ys)]) (x := .slice (some ⟨H.length, 0, some es⟩) 1 1) hb (hget_old hg _) hl (cellsA_new (b := H.length) (cs := ys) (m := 1) (T := el) (by simp [hget]) (by simpa using hy)) (by decide) hr
  simpa using this
theorem own_new {H1 : Heap} {x : TypeId × List Value} : hget (H1 ++ [some x]) H1.length = some x := by simp [hget]
theorem keeps_ap {k0 b : Nat} {el T : TypeId} {ys zs : List Value} {H0 : Heap} (h : Keeps k0 H0 H) (hk : k0 ≤ H0.length) (hb : k0 ≤ b) : Keeps k0 H0 ((H ++ [some (el, ys)]).set b none ++ [some (T, zs)]) := by
  have h1 := h.1
  exact ((h.trans (.append (by omega) _)).trans (.set hb none)).trans (.append (by simp; omega) _)
theorem get_ap {b : Nat} {el T : TypeId} {ys zs : List Value} : hget ((H ++ [some (el, ys)]).set b none ++ [some (T, zs)]) (H.length + 1) = some (T, zs) := by simp [hget]
end

-- lists written out
section
variable {α γ : Type} {x y : α} {l m : List α} {i : Nat}
@[go_sem] theorem l_ca : (x :: l) ++ m = x :: (l ++ m) := rfl
@[go_sem] theorem l_na : ([] : List α) ++ m = m := rfl
@[go_sem] theorem l_an : l ++ [] = l := List.append_nil l
@[go_sem] theorem l_rs : List.replicate (i + 1) x = x :: List.replicate i x := rfl
@[go_sem] theorem l_r0 : List.replicate 0 x = [] := rfl
@[go_sem] theorem l_lc : (x :: l).length = l.length + 1 := rfl
@[go_sem] theorem l_ln : ([] : List α).length = 0 := rfl
@[go_sem] theorem l_s0 : (x :: l).set 0 y = y :: l := rfl
@[go_sem] theorem l_ss : (x :: l).set (i + 1) y = x :: l.set i y := rfl
@[go_sem] theorem l_g0 : (x :: l).getD 0 y = x := rfl
@[go_sem] theorem l_gs : (x :: l).getD (i + 1) y = l.getD i y := rfl
@[go_sem] theorem l_mc {f : α → γ} : (x :: l).map f = f x :: l.map f := rfl
@[go_sem] theorem l_mn {f : α → γ} : ([] : List α).map f = [] := rfl
@[go_sem] theorem l_e0 : (x :: l)[0]? = some x := rfl
@[go_sem] theorem l_es : (x :: l)[i + 1]? = l[i]? := rfl
@[go_sem] theorem l_tl : (l ++ m).take l.length = l := List.take_left
@[go_sem] theorem l_tt : l.take l.length = l := List.take_length
@[go_sem] theorem o_ms {f : α → γ} : (some x).map f = some (f x) := rfl
@[go_sem] theorem o_bs {f : α → Option γ} : (some x).bind f = f x := rfl
end
attribute [go_sem] Nat.reduceSub Nat.reduceAdd Nat.zero_add if_true if_false Bool.false_eq_true reduceCtorEq Bool.true_and Bool.false_and Bool.and_true Bool.and_false Bool.not_true Bool.not_false
end
end Go.Am

/- A small machine over lists in the place of the memory: functions without a bound on rounds. No conditions. -/
namespace Go.Am
set_option linter.unusedVariables false
set_option linter.unusedSimpArgs false
section
variable {C : Cfg} {call call' : Nat → CallF} {base n : Nat} {dr : Bool} {o : Oper} {ρ : Env} {H : Heap}

def Le (call call' : Nat → CallF) : Prop := ∀ b g a H r, call b g a H = some r → call' b g a H = some r

theorem evalOp_nocall (h : ∀ c, o.op ≠ .call c) (call' : Nat → CallF) : evalOp C call' base dr o ρ H = evalOp C call base dr o ρ H := by
  unfold evalOp
  cases ho : o.op with
  | call c => exact absurd ho (h c)
  | unOp op t x => cases op <;> rfl
  | _ => rfl
theorem evalOp_calls {r : Value × Heap} (h : evalOp C call base dr o ρ H = some r) : (∀ call' : Nat → CallF, evalOp C call' base dr o ρ H = some r) ∨ ∃ b g a, call b g a H = some r ∧ ∀ call' : Nat → CallF, call' b g a H = some r → evalOp C call' base dr o ρ H = some r := by
  by_cases hno : ∀ c, o.op ≠ .call c
  · left; intro call'; rw [evalOp_nocall hno call' (call := call)]; exact h
  · obtain ⟨c, ho⟩ : ∃ c, o.op = .call c := by
      cases hop : o.op <;> first | exact ⟨_, rfl⟩ | (exfalso; refine hno fun c hc => ?_; rw [hop] at hc; cases hc)
    unfold evalOp at h
    rw [ho] at h
    simp only at h
    split at h
    · rename_i bi hb
      left; intro call'; unfold evalOp; rw [ho]; simp only [hb]; exact h
    · rename_i f hf
      by_cases he : extF C f = true
      · rw [if_pos he] at h
        left; intro call'; unfold evalOp; rw [ho]; simp only [hf, he, if_true]; exact h
      · rw [if_neg he] at h
        unfold callA at h
        split at h
        · rename_i g first caps heq
          by_cases hd : dr = true ∧ isStat f = false ∧ C.wr g = true
          · rw [if_pos hd] at h; cases h
          · rw [if_neg hd] at h
            refine .inr ⟨_, _, _, h, fun call' hc => ?_⟩
            unfold evalOp
            rw [ho]
            simp only [hf, he, if_false, Bool.false_eq_true]
            unfold callA
            rw [heq]
            simp only
            rw [if_neg hd]
            exact hc
        · cases h
    · cases h

theorem evalOp_mono (hl : Le call call') {r : Value × Heap} (h : evalOp C call base dr o ρ H = some r) : evalOp C call' base dr o ρ H = some r := by
  rcases evalOp_calls h with h1 | ⟨b, g, a, h1, h2⟩
  · exact h1 call'
  · exact h2 call' (hl _ _ _ _ _ h1)
theorem runOps_mono (hl : Le call call') {ops : Array Oper} : ∀ (l : List Oper) (ρ : Env) (H : Heap) (r : Env × Heap), runOps C call base dr ops l ρ H = some r → runOps C call' base dr ops l ρ H = some r := by
  intro l
  induction l with
  | nil => intro ρ H r h; exact h
  | cons o l ih =>
    intro ρ H r h
    simp only [runOps] at h ⊢
    obtain ⟨g, hg, h⟩ := Option.bind_eq_some_iff.1 h
    rw [hg, Option.bind_some]
    cases g with
    | true =>
      simp only at h ⊢
      obtain ⟨x, hx, h⟩ := Option.bind_eq_some_iff.1 h
      rw [evalOp_mono hl hx, Option.bind_some]
      exact ih _ _ _ h
    | false => exact ih _ _ _ h
theorem iter_mono {f g : Env → Heap → Option (Ex × Env × Heap)} (hl : ∀ ρ H r, f ρ H = some r → g ρ H = some r) {ks : List Tmp} : ∀ (n m : Nat) (ρ : Env) (H : Heap) (r : Ex × Env × Heap), n ≤ m → iter f ks n ρ H = some r → iter g ks m ρ H = some r := by
  intro n
  induction n with
  | zero => intro m ρ H r _ h; simp [iter] at h
  | succ n ih =>
    intro m ρ H r hm h
    obtain ⟨m, rfl⟩ : ∃ q, m = q + 1 := ⟨m - 1, by omega⟩
    simp only [iter] at h ⊢
    obtain ⟨⟨x, ρ1, H1⟩, h1, h2⟩ := Option.bind_eq_some_iff.1 h
    rw [hl _ _ _ h1, Option.bind_some]
    cases x with
    | normal => exact ih m _ _ _ (by omega) h2
    | exit i => exact h2
    | ret => exact h2
theorem exec_mono (hl : Le call call') {m : Nat} (hm : n ≤ m) : ∀ (c : Code) (ρ : Env) (H : Heap) (r : Ex × Env × Heap), exec C call n base c ρ H = some r → exec C call' m base c ρ H = some r := by
  intro c
  induction c with
  | region id ops draw =>
    intro ρ H r h
    cases draw with
    | false =>
      simp only [exec, Bool.false_eq_true, if_false] at h ⊢
      obtain ⟨x, h1, rfl⟩ := Option.map_eq_some_iff.1 h
      rw [runOps_mono hl _ _ _ _ h1]; rfl
    | true =>
      simp only [exec, if_true] at h ⊢
      obtain ⟨ps, hps, h⟩ := Option.bind_eq_some_iff.1 h
      obtain ⟨x, h1, h2⟩ := Option.bind_eq_some_iff.1 h
      rw [hps, Option.bind_some, runOps_mono hl _ _ _ _ h1, Option.bind_some]
      exact h2
  | seq a b iha ihb =>
    intro ρ H r h
    simp only [exec] at h ⊢
    obtain ⟨⟨x, ρ1, H1⟩, h1, h2⟩ := Option.bind_eq_some_iff.1 h
    rw [iha _ _ _ h1, Option.bind_some]
    cases x with
    | normal => exact ihb _ _ _ h2
    | exit i => exact h2
    | ret => exact h2
  | cond x a b iha ihb =>
    intro ρ H r h
    simp only [exec] at h ⊢
    split at h
    · rename_i t ht
      cases t with
      | true => exact iha _ _ _ h
      | false => exact ihb _ _ _ h
    · cases h
  | block id a iha =>
    intro ρ H r h
    simp only [exec] at h ⊢
    obtain ⟨x, h1, rfl⟩ := Option.map_eq_some_iff.1 h
    rw [iha _ _ _ h1]; rfl
  | loop a iha =>
    intro ρ H r h
    simp only [exec] at h ⊢
    exact iter_mono iha n m ρ H r hm h
  | _ => intro ρ H r h; simp only [exec] at h ⊢ <;> first | exact h | cases h

theorem body_mono (hl : Le call call') {m : Nat} (hm : n ≤ m) {f : FuncId} {fn : Func} {c : Code} {args : List Value} {r : Value × Heap} (h : body C call n base f fn c args H = some r) : body C call' m base f fn c args H = some r := by
  unfold body at h ⊢
  obtain ⟨x, h1, h2⟩ := Option.bind_eq_some_iff.1 h
  rw [exec_mono hl hm _ _ _ _ h1, Option.bind_some]
  exact h2
theorem run_mono : ∀ (k : Nat), Le (run C k) (run C (k + 1)) := by
  intro k
  induction k with
  | zero => intro b g a H r h; simp [run] at h
  | succ k ih =>
    intro b g a H r h
    rw [run] at h ⊢
    split at h
    · rename_i G hG
      exact h
    rename_i hG
    obtain ⟨fn, hf, h⟩ := Option.bind_eq_some_iff.1 h
    obtain ⟨c, hc, h⟩ := Option.bind_eq_some_iff.1 h
    rw [hf, Option.bind_some, hc, Option.bind_some]
    split at h
    · cases h
    · rename_i hn
      rw [if_neg hn]
      exact body_mono ih (Nat.le_succ k) h
theorem run_le {k m : Nat} (h : k ≤ m) : Le (run C k) (run C m) := by
  obtain ⟨d, rfl⟩ : ∃ d, m = k + d := ⟨m - k, by omega⟩
  induction d with
  | zero => exact fun _ _ _ _ _ h => h
  | succ d ih => exact fun b g a H r hr => run_mono (k + d) b g a H r (ih (by omega) b g a H r hr)

open Classical in
/-- A function's answer, however many rounds it takes. -/
noncomputable def cal (C : Cfg) (base : Nat) : CallF := fun f args H => if h : ∃ r k, run C k base f args H = some r then some h.choose else none
theorem cal_run {f : FuncId} {args : List Value} {r : Value × Heap} : cal C base f args H = some r ↔ ∃ k, run C k base f args H = some r := by
  unfold cal
  constructor
  · intro h
    split at h
    · rename_i hh
      cases h
      exact hh.choose_spec
    · cases h
  · rintro ⟨k, hk⟩
    have hh : ∃ r k, run C k base f args H = some r := ⟨r, k, hk⟩
    rw [dif_pos hh]
    obtain ⟨k2, hk2⟩ := hh.choose_spec
    have h1 := run_le (C := C) (Nat.le_max_left k k2) _ _ _ _ _ hk
    have h2 := run_le (C := C) (Nat.le_max_right k k2) _ _ _ _ _ hk2
    rw [h1] at h2
    exact h2.symm

theorem evalOp_fin {r : Value × Heap} (h : evalOp C (cal C) base dr o ρ H = some r) : ∃ K, evalOp C (run C K) base dr o ρ H = some r := by
  rcases evalOp_calls h with h1 | ⟨b, g, a, h1, h2⟩
  · exact ⟨0, h1 _⟩
  · obtain ⟨k, hk⟩ := cal_run.1 h1
    exact ⟨k, h2 _ hk⟩
theorem runOps_fin {ops : Array Oper} : ∀ (l : List Oper) (ρ : Env) (H : Heap) (r : Env × Heap), runOps C (cal C) base dr ops l ρ H = some r → ∃ K, runOps C (run C K) base dr ops l ρ H = some r := by
  intro l
  induction l with
  | nil => intro ρ H r h; exact ⟨0, h⟩
  | cons o l ih =>
    intro ρ H r h
    simp only [runOps] at h ⊢
    obtain ⟨g, hg, h⟩ := Option.bind_eq_some_iff.1 h
    simp only [hg, Option.bind_some]
    cases g with
    | true =>
      simp only at h ⊢
      obtain ⟨x, hx, h⟩ := Option.bind_eq_some_iff.1 h
      obtain ⟨k1, h1⟩ := evalOp_fin hx
      obtain ⟨k2, h2⟩ := ih _ _ _ h
      refine ⟨max k1 k2, ?_⟩
      rw [evalOp_mono (run_le (Nat.le_max_left k1 k2)) h1, Option.bind_some]
      exact runOps_mono (run_le (Nat.le_max_right k1 k2)) _ _ _ _ h2
    | false => exact ih _ _ _ h
theorem exec_fin : ∀ (c : Code) (ρ : Env) (H : Heap) (r : Ex × Env × Heap), exec C (cal C) n base c ρ H = some r → ∃ K, exec C (run C K) n base c ρ H = some r := by
  intro c
  induction c with
  | region id ops draw =>
    intro ρ H r h
    cases draw with
    | false =>
      simp only [exec, Bool.false_eq_true, if_false] at h ⊢
      obtain ⟨x, h1, rfl⟩ := Option.map_eq_some_iff.1 h
      obtain ⟨K, hK⟩ := runOps_fin _ _ _ _ h1
      exact ⟨K, by rw [hK]; rfl⟩
    | true =>
      simp only [exec, if_true] at h ⊢
      obtain ⟨ps, hps, h⟩ := Option.bind_eq_some_iff.1 h
      obtain ⟨x, h1, h2⟩ := Option.bind_eq_some_iff.1 h
      obtain ⟨K, hK⟩ := runOps_fin _ _ _ _ h1
      exact ⟨K, by rw [hps, Option.bind_some, hK, Option.bind_some]; exact h2⟩
  | seq a b iha ihb =>
    intro ρ H r h
    simp only [exec] at h ⊢
    obtain ⟨⟨x, ρ1, H1⟩, h1, h2⟩ := Option.bind_eq_some_iff.1 h
    obtain ⟨k1, e1⟩ := iha _ _ _ h1
    cases x with
    | normal =>
      obtain ⟨k2, e2⟩ := ihb _ _ _ h2
      refine ⟨max k1 k2, ?_⟩
      rw [exec_mono (run_le (Nat.le_max_left k1 k2)) (Nat.le_refl _) _ _ _ _ e1, Option.bind_some]
      exact exec_mono (run_le (Nat.le_max_right k1 k2)) (Nat.le_refl _) _ _ _ _ e2
    | exit i => exact ⟨k1, by rw [e1]; exact h2⟩
    | ret => exact ⟨k1, by rw [e1]; exact h2⟩
  | cond x a b iha ihb =>
    intro ρ H r h
    simp only [exec] at h ⊢
    split at h
    · rename_i t ht
      cases t with
      | true => exact iha _ _ _ h
      | false => exact ihb _ _ _ h
    · cases h
  | block id a iha =>
    intro ρ H r h
    simp only [exec] at h ⊢
    obtain ⟨x, h1, rfl⟩ := Option.map_eq_some_iff.1 h
    obtain ⟨K, hK⟩ := iha _ _ _ h1
    exact ⟨K, by rw [hK]; rfl⟩
  | loop a iha =>
    intro ρ H r h
    simp only [exec] at h ⊢
    have key : ∀ (m : Nat) (ρ : Env) (H : Heap), iter (exec C (cal C) n base a) (killed a) m ρ H = some r → ∃ K, iter (exec C (run C K) n base a) (killed a) m ρ H = some r := by
      intro m
      induction m with
      | zero => intro ρ H h; simp [iter] at h
      | succ m ih =>
        intro ρ H h
        simp only [iter] at h ⊢
        obtain ⟨⟨x, ρ1, H1⟩, h1, h2⟩ := Option.bind_eq_some_iff.1 h
        obtain ⟨k1, e1⟩ := iha _ _ _ h1
        cases x with
        | normal =>
          obtain ⟨k2, e2⟩ := ih _ _ h2
          refine ⟨max k1 k2, ?_⟩
          rw [exec_mono (run_le (Nat.le_max_left k1 k2)) (Nat.le_refl _) _ _ _ _ e1, Option.bind_some]
          exact iter_mono (fun ρ H r h => exec_mono (run_le (Nat.le_max_right k1 k2)) (Nat.le_refl _) _ _ _ _ h) m m _ _ _ (Nat.le_refl _) e2
        | exit i => exact ⟨k1, by rw [e1]; exact h2⟩
        | ret => exact ⟨k1, by rw [e1]; exact h2⟩
    exact key n ρ H h
  | _ => intro ρ H r h; simp only [exec] at h ⊢ <;> first | exact ⟨0, h⟩ | cases h

/-- A function's answer out of its text. -/
theorem cal_fn {f : FuncId} {fn : Func} {c : Code} {res : List ResultVar} {m : Nat} (hf : C.P.funcs[f]? = some fn) (hb : fn.body = some c) (hn : (fn.name == "runtime.NumGoroutine") = false) (hr : fn.results.toList = res) (hm : fn.ntmps = m) (n base : Nat) (args : List Value) (H : Heap) {r : Value × Heap}
    (h : run1 C (cal C) n (if C.wr f then base else H.length) f H.length res (fin C (cal C) n (if C.wr f then base else H.length) [.code c] (some (.normal, args ++ List.replicate (m - args.length) undef, H))) = some r) (hfr : C.frn f = none := by rfl) : cal C base f args H = some r := by
  subst hr hm
  have hbody : body C (cal C) n base f fn c args H = some r := by
    rw [← h]
    unfold body
    simp only [fin, thenN, Option.bind_some]
    cases h : exec C (cal C) n (if C.wr f = true then base else List.length H) c (args ++ List.replicate (fn.ntmps - args.length) undef) H with
    | none => rfl
    | some x => obtain ⟨x, ρ', H'⟩ := x; cases x <;> rfl
  unfold body at hbody
  obtain ⟨x, h1, h2⟩ := Option.bind_eq_some_iff.1 hbody
  obtain ⟨K, hK⟩ := exec_fin _ _ _ _ h1
  refine cal_run.2 ⟨max K n + 1, ?_⟩
  simp only [run, hfr]
  rw [hf, Option.bind_some, hb, Option.bind_some, if_neg (by rw [hn]; decide)]
  unfold body
  rw [exec_mono (run_le (Nat.le_max_left K n)) (Nat.le_max_right K n) _ _ _ _ hK, Option.bind_some]
  exact h2

/-- What the small machine answers, the real one answers. -/
theorem cal_ok (hm : C.P.follows .mixedOrders = true) {nf : Nat} (hfk : ∀ g G args H v H', C.frn g = some G → G args H = some (v, H') → ∃ F, H' = H ++ F) (hfo : FrnOk C nf) {g : FuncId} {args : List Value} {v : Value} {H' : Heap} (hnb : nf ≤ base) (hbl : base ≤ H.length) (h : cal C base g args H = some (v, H')) {β : Beta} {w : World} {args' : Array Value} (hs : Sim nf β H w) (ha : VRL β args args'.toList) :
    Calls C.P g args' w fun e w' => ∃ v' β', e = .returned v' ∧ VR β' v v' ∧ Post nf base β H w β' H' w' := by
  obtain ⟨k, hk⟩ := cal_run.1 h
  exact ((run_ok hm hfk hfo k).1 base g args H v H' hnb hbl hk).2 β w args' hs ha
end
end Go.Am

