/- The small machine: more steps, slices, lists that a function has made, frames that are not written out. No conditions. -/
import Derived.Test.YtjoapoebeknddaaA4
set_option linter.unusedSimpArgs false
set_option linter.unusedVariables false
/- A small machine over lists in the place of the memory: more steps. No conditions. -/
namespace Go.Am
set_option linter.unusedVariables false
set_option linter.unusedSimpArgs false
section
variable {C : Cfg} {P : Program} {t' : TypeId} {call : Nat → CallF} {base n : Nat} {dr : Bool} {ρ : Env} {H : Heap} {d : Option Tmp} {t u : TypeId} {p : String} {e : Array Edge} {g : Option (Nat × Bool)}

/-- A block for a value. -/
def box1 (H : Heap) (t : TypeId) (v : Value) : Option (Value × Heap) := if v.cells.toList.all isCell then some (.pointer (some ⟨H.length, 0, none⟩), H ++ [some (t, v.cells.toList)]) else none
@[go_sem] theorem eo_box {x : Operand} : evalOp C call base dr ⟨d, .box t x, u, p, e, g⟩ ρ H = box1 H t (ev ρ x) := rfl
@[go_sem] theorem box_i {K : IntKind} {i : Int} : box1 H t (.int K i) = some (.pointer (some ⟨H.length, 0, none⟩), H ++ [some (t, [.int K i])]) := rfl
@[go_sem] theorem box_b {i : Bool} : box1 H t (.bool i) = some (.pointer (some ⟨H.length, 0, none⟩), H ++ [some (t, [.bool i])]) := rfl
@[go_sem] theorem box_s {a : Option Addr} {m c : Nat} : box1 H t (.slice a m c) = some (.pointer (some ⟨H.length, 0, none⟩), H ++ [some (t, [.slice a m c])]) := rfl
@[go_sem] theorem box_f {f : Fn} {a c : Array Value} : box1 H t (.func f a c) = some (.pointer (some ⟨H.length, 0, none⟩), H ++ [some (t, [.func f a c])]) := rfl
theorem box_a {cs : Array Value} (h : cs.toList.all isCell = true) : box1 H t (.agg cs) = some (.pointer (some ⟨H.length, 0, none⟩), H ++ [some (t, cs.toList)]) := by
  unfold box1; exact if_pos h
@[go_sem] theorem box_a2 {K K' : IntKind} {i j : Int} : box1 H t (.agg #[.int K i, .int K' j]) = some (.pointer (some ⟨H.length, 0, none⟩), H ++ [some (t, [.int K i, .int K' j])]) := rfl
theorem eo_alloc {z : Value} (h : tyZero C.P t = some z) (hz : isC z = true) : evalOp C call base dr ⟨d, .alloc t, u, p, e, g⟩ ρ H = some (.pointer (some ⟨H.length, 0, none⟩), H ++ [some (t, z.cells.toList)]) := by
  simp [evalOp, h, hz]
@[go_sem] theorem eo_load {x : Operand} : evalOp C call base dr ⟨d, .load t x, u, p, e, g⟩ ρ H = valH H (loadA C.P H t (ev ρ x)) := rfl
@[go_sem] theorem vh_s {v : Value} : valH H (some v) = some (v, H) := rfl
/-- What a load reads in a block. -/
def ld1 (P : Program) (t : TypeId) (o : Nat) (c : Option (TypeId × List Value)) : Option Value := c.bind fun c => (tyAgg P t).bind fun g => match g with
    | true => (tySize P t).bind fun n => if o + n ≤ c.2.length then some (.agg ((c.2.drop o).take n).toArray) else none
    | false => c.2[o]?
@[go_sem] theorem loadA_p {b o : Nat} : loadA P H t (.pointer (some ⟨b, o, none⟩)) = ld1 P t o (hget H b) := rfl
theorem ld_sc {o : Nat} {T : TypeId} {cs : List Value} (h : tyAgg P t = some false) : ld1 P t o (some (T, cs)) = cs[o]? := by simp [ld1, h]
theorem ld_ag {o m : Nat} {T : TypeId} {cs : List Value} (h : tyAgg P t = some true) (hs : tySize P t = some m) : ld1 P t o (some (T, cs)) = if o + m ≤ cs.length then some (.agg ((cs.drop o).take m).toArray) else none := by simp [ld1, h, hs]
@[go_sem] theorem eo_store {x y : Operand} : evalOp C call base dr ⟨d, .store t x y, u, p, e, g⟩ ρ H = (storeA C.P base H t (ev ρ y) (ev ρ x)).map fun H' => (.tuple #[], H') := rfl
theorem st_at {b o : Nat} {T : TypeId} {cs : List Value} {v : Value} (hb : base ≤ b) (hg : hget H b = some (T, cs)) (hc : v.cells.toList.all isCell = true) (hs : tySize P t = some v.cells.size) (hl : o + v.cells.size ≤ cs.length) :
    storeA P base H t v (.pointer (some ⟨b, o, none⟩)) = some (H.set b (some (T, setAll cs o v.cells.toList))) := by
  simp [storeA, hb, hg, hs, hl]
  simpa using hc
/-- The store into the newest block. -/
theorem st_new {T : TypeId} {cs : List Value} {v : Value} (hb : base ≤ H.length) (hc : v.cells.toList.all isCell = true) (hs : tySize P t = some v.cells.size) (hl : v.cells.size = cs.length) :
    storeA P base (H ++ [some (T, cs)]) t v (.pointer (some ⟨H.length, 0, none⟩)) = some (H ++ [some (T, v.cells.toList)]) := by
  rw [st_at (b := H.length) (o := 0) hb (T := T) (cs := cs) (by simp [hget]) hc hs (by omega)]
  have : setAll cs 0 v.cells.toList = v.cells.toList := by
    have key : ∀ (l : List Value) (pre m : List Value), m.length = l.length → setAll (pre ++ m) pre.length l = pre ++ l := by
      intro l
      induction l with
      | nil => intro pre m h; cases m with
        | nil => rfl
        | cons a m => simp at h
      | cons a l ih =>
        intro pre m h
        cases m with
        | nil => simp at h
        | cons c m =>
          simp only [setAll]
          have := ih (pre ++ [a]) m (by simpa using h)
          simp only [List.length_append, List.length_singleton, List.append_assoc, List.singleton_append] at this
          rw [show (pre ++ c :: m).set pre.length a = pre ++ a :: m by simp]
          exact this
    simpa using key v.cells.toList [] cs (by simpa using hl.symm)
  rw [this]
  simp
@[go_sem] theorem eo_fieldAddr {x : Operand} {f : Nat} : evalOp C call base dr ⟨d, .fieldAddr t x f, u, p, e, g⟩ ρ H = valH H (fieldAddrA C.P t f (ev ρ x)) := rfl
@[go_sem] theorem eo_indexAddr {x i : Operand} : evalOp C call base dr ⟨d, .indexAddr t x i, u, p, e, g⟩ ρ H = valH H (indexAddrA C.P t (ev ρ x) (ev ρ i)) := rfl
@[go_sem] theorem eo_field {x : Operand} {f : Nat} : evalOp C call base dr ⟨d, .field t x f, u, p, e, g⟩ ρ H = valH H (fieldA C.P t f (ev ρ x)) := rfl
@[go_sem] theorem eo_build {ps : Array (Nat × Operand)} : evalOp C call base dr ⟨d, .build t ps, u, p, e, g⟩ ρ H = valH H (buildA C.P t (ps.toList.map fun p => (p.1, ev ρ p.2))) := rfl
@[go_sem] theorem eo_makeFunc {fn : Fn} {as cs : Array Operand} : evalOp C call base dr ⟨d, .makeFunc fn as cs, u, p, e, g⟩ ρ H = some (.func fn (as.map (ev ρ)) (cs.map (ev ρ)), H) := rfl
theorem ia_at {b o es m c i el : Nat} {K : IntKind} (h1 : tyElem P t = some el) (h2 : tySize P el = some es) (hi : i < m) : indexAddrA P t (.slice (some ⟨b, o, some es⟩) m c) (.int K i) = some (.pointer (some ⟨b, o + i * es, none⟩)) := by
  simp [indexAddrA, h1, h2, hi]
def len1 (P : Program) (ρ : Env) (o : Oper) (base : Nat) (H : Heap) (t : TypeId) (v : Value) : Option (Value × Heap) := builtinA P ρ o base H .len #[t] [v]
@[go_sem] theorem eo_len {x : Operand} : evalOp C call base dr ⟨d, .call ⟨.builtin .len, #[x], #[t]⟩, u, p, e, g⟩ ρ H = len1 C.P ρ ⟨d, .call ⟨.builtin .len, #[x], #[t]⟩, u, p, e, g⟩ base H t (ev ρ x) := rfl
@[go_sem] theorem len_s {o : Oper} {a : Option Addr} {m c : Nat} : len1 P ρ o base H t (.slice a m c) = if (tyElem P t).isSome then some (.int .i64 m, H) else none := rfl
/-- The call of a function value. -/
def callv (C : Cfg) (call : Nat → CallF) (base : Nat) (dr : Bool) (H : Heap) (args : List Value) : Value → Option (Value × Heap)
  | .func (.func g) first caps => if dr = true ∧ C.wr g = true then none else call base g (first.toList ++ args ++ caps.toList) H
  | _ => none
@[go_sem] theorem eo_callv {f : Tmp} {as : Array Operand} {ts : Array TypeId} : evalOp C call base dr ⟨d, .call ⟨.value (.tmp f), as, ts⟩, u, p, e, g⟩ ρ H = callv C call base dr H (as.toList.map (ev ρ)) (ρ.getD f undef) := by
  simp only [evalOp, extF, Bool.false_eq_true, if_false, callA, isStat, ev]
  split
  · rename_i h; rw [h]; simp [callv]
  · rename_i h
    unfold callv
    split
    · rename_i g f c h2; exact absurd h2 (h g f c)
    · rfl
@[go_sem] theorem cv_f {g : FuncId} {fs cs : Array Value} {args : List Value} : callv C call base false H args (.func (.func g) fs cs) = call base g (fs.toList ++ args ++ cs.toList) H := by simp [callv]
end

/-- A slice that shows n elements of es cells each. -/
def Shows (H : Heap) (es : Nat) (s : Value) (n : Nat) (cs : List Value) : Prop :=
  (s = .slice none 0 0 ∧ n = 0 ∧ cs = []) ∨ ∃ b o cap T cs0, s = .slice (some ⟨b, o, some es⟩) n cap ∧ hget H b = some (T, cs0) ∧ o + n * es ≤ cs0.length ∧ (cs0.drop o).take (n * es) = cs ∧ n ≤ cap
section
variable {H H' : Heap} {es n : Nat} {s : Value} {cs : List Value}
theorem Shows.len (h : Shows H es s n cs) : cs.length = n * es := by
  rcases h with ⟨_, rfl, rfl⟩ | ⟨b, o, cap, T, cs0, _, _, h1, rfl, _⟩
  · simp
  · simp; omega
theorem Shows.sl (h : Shows H es s n cs) : ∃ a c, s = .slice a n c := by
  rcases h with ⟨rfl, rfl, _⟩ | ⟨b, o, cap, T, cs0, rfl, _⟩ <;> exact ⟨_, _, rfl⟩
theorem Shows.keep (h : Shows H es s n cs) (hk : Keeps H.length H H') : Shows H' es s n cs := by
  rcases h with h | ⟨b, o, cap, T, cs0, h1, h2, h3⟩
  · exact .inl h
  · refine .inr ⟨b, o, cap, T, cs0, h1, ?_, h3⟩
    obtain ⟨F, rfl⟩ := keeps_append hk
    exact hget_old h2 F
theorem Shows.keep2 {k : Nat} (h : Shows H es s n cs) (hk : ∀ b o m c, s = .slice (some ⟨b, o, some es⟩) m c → hget H' b = hget H b) : Shows H' es s n cs := by
  rcases h with h | ⟨b, o, cap, T, cs0, h1, h2, h3⟩
  · exact .inl h
  · exact .inr ⟨b, o, cap, T, cs0, h1, (hk _ _ _ _ h1).trans h2, h3⟩
theorem Shows.add (h : Shows H es s n cs) (F : Heap) : Shows (H ++ F) es s n cs := h.keep (.append (Nat.le_refl _) F)
theorem Shows.cells (h : Shows H es s n cs) : cellsA H es s = some (n, cs) := by
  rcases h with ⟨rfl, rfl, rfl⟩ | ⟨b, o, cap, T, cs0, rfl, h2, h3, h4, _⟩
  · rfl
  · simp [cellsA, h2, h3, h4]
/-- A piece of a slice. -/
theorem Shows.cut {P : Program} {t el : TypeId} {lo hi : Nat} {l h' : Option Value} (h : Shows H es s n cs) (h1 : tyElem P t = some el) (h2 : tySize P el = some es) (hl : optI l 0 = some (lo : Int)) (hh : optI h' n = some (hi : Int)) (hlh : lo ≤ hi) (hhn : hi ≤ n) :
    ∃ s', sliceA P t s l h' none = some s' ∧ Shows H es s' (hi - lo) ((cs.drop (lo * es)).take ((hi - lo) * es)) := by
  rcases h with ⟨rfl, rfl, rfl⟩ | ⟨b, o, cap, T, cs0, rfl, h3, h4, rfl, h5⟩
  · obtain rfl : hi = 0 := by omega
    obtain rfl : lo = 0 := by omega
    have hh0 : optI h' 0 = some 0 := hh
    refine ⟨.slice none 0 0, ?_, .inl ⟨rfl, rfl, by simp⟩⟩
    have hl0 : optI l 0 = some 0 := hl
    have hm : optI none (0 : Int) = some 0 := rfl
    simp only [sliceA, hl0, hh0, hm, Option.bind_some, h1, h2]
    simp
  · have e1 : lo * es ≤ hi * es := Nat.mul_le_mul_right es hlh
    have e2 : hi * es ≤ n * es := Nat.mul_le_mul_right es hhn
    have e3 : (hi - lo) * es = hi * es - lo * es := Nat.sub_mul _ _ _
    refine ⟨.slice (some ⟨b, o + lo * es, some es⟩) (hi - lo) (cap - lo), ?_, .inr ⟨b, o + lo * es, cap - lo, T, cs0, rfl, h3, by omega, ?_, by omega⟩⟩
    · have hm : optI none (cap : Int) = some (cap : Int) := rfl
      simp only [sliceA, hl, hh, hm, Option.bind_some, h1, h2]
      rw [if_pos ⟨trivial, by omega, by omega, by omega, by omega, rfl⟩]
      congr 2 <;> omega
    · rw [List.drop_take, List.drop_drop, List.take_take, Nat.min_eq_left (by omega)]
/-- Where element i stands. -/
theorem Shows.at {P : Program} {t el : TypeId} {i : Nat} {K : IntKind} (h : Shows H es s n cs) (hi : i < n) (h1 : tyElem P t = some el) (h2 : tySize P el = some es) :
    ∃ b o T cs0, indexAddrA P t s (.int K i) = some (.pointer (some ⟨b, o, none⟩)) ∧ hget H b = some (T, cs0) ∧ o + es ≤ cs0.length ∧ (cs0.drop o).take es = (cs.drop (i * es)).take es ∧ ∀ f, f < es → cs0[o + f]? = cs[i * es + f]? := by
  rcases h with ⟨_, rfl, _⟩ | ⟨b, o, cap, T, cs0, rfl, h3, h4, rfl, _⟩
  · omega
  · have hle : (i + 1) * es ≤ n * es := Nat.mul_le_mul_right es hi
    rw [Nat.succ_mul] at hle
    refine ⟨b, o + i * es, T, cs0, ia_at h1 h2 hi, h3, by omega, ?_, fun f hf => ?_⟩
    · rw [List.drop_take, List.drop_drop, List.take_take, Nat.min_eq_left (by omega)]
    · rw [List.getElem?_take, if_pos (by omega), List.getElem?_drop, Nat.add_assoc]
end
end Go.Am
namespace Go.Am
section
variable {α γ : Type} {f : α → γ} {x y z : α}
@[go_sem] theorem am_0 : (#[] : Array α).map f = #[] := by simp
@[go_sem] theorem am_1 : (#[x] : Array α).map f = #[f x] := by simp
@[go_sem] theorem am_2 : (#[x, y] : Array α).map f = #[f x, f y] := by simp
@[go_sem] theorem am_3 : (#[x, y, z] : Array α).map f = #[f x, f y, f z] := by simp
end
attribute [go_sem] brg_t' brg_f' Bool.or_true Bool.true_or Bool.or_false Bool.false_or
end Go.Am

namespace Go.Am
/-- An answer that is there, and what holds of it. -/
def Ok (x : Option (Value × Heap)) (Q : Value → Heap → Prop) : Prop := ∃ v H', x = some (v, H') ∧ Q v H'
theorem Ok.some {v : Value} {H : Heap} {Q : Value → Heap → Prop} (h : Q v H) : Ok (Option.some (v, H)) Q := ⟨v, H, rfl, h⟩
section
variable {C : Cfg} {P : Program} {call : Nat → CallF} {base n : Nat} {ρ : Env} {H : Heap} {k : List It} {c : Code} {f : FuncId} {m0 : Nat} {res : List ResultVar} {ks : List Tmp} {Q : Value → Heap → Prop}
theorem ok_fn {fn : Func} {m : Nat} (hf : C.P.funcs[f]? = some fn) (hb : fn.body = some c) (hn : (fn.name == "runtime.NumGoroutine") = false) (hr : fn.results.toList = res) (hm : fn.ntmps = m) (n base : Nat) (args : List Value) (H : Heap)
    (h : Ok (run1 C (cal C) n (if C.wr f then base else H.length) f H.length res (fin C (cal C) n (if C.wr f then base else H.length) [.code c] (some (.normal, args ++ List.replicate (m - args.length) undef, H)))) Q) (hfr : C.frn f = none := by rfl) : Ok (cal C base f args H) Q := by
  obtain ⟨v, H', h1, h2⟩ := h
  exact ⟨v, H', cal_fn hf hb hn hr hm n base args H h1 hfr, h2⟩
/-- A loop, where the answer is told by what holds of it. -/
theorem lp_ok (sl : List Tmp) (I : Nat → List Value → Heap → Prop) (j : Nat) (vs : List Value)
    (step : ∀ (j m : Nat) (vs : List Value) (H : Heap), I j vs H → (∀ (j' : Nat) (vs' : List Value) (ρ' : Env) (H' : Heap), j' < j → wipe ks ρ' = putL (wipe ks ρ) sl vs' → I j' vs' H' → Ok (run1 C call n base f m0 res (fin C call n base (.lp c ks m :: k) (some (.normal, ρ', H')))) Q) →
      Ok (run1 C call n base f m0 res (fin C call n base (.code c :: .lp c ks m :: k) (some (.normal, putL (wipe ks ρ) sl vs, H)))) Q)
    {m : Nat} (hm : j < m) (hw : wipe ks ρ = putL (wipe ks ρ) sl vs) (h : I j vs H) : Ok (run1 C call n base f m0 res (fin C call n base (.lp c ks m :: k) (some (.normal, ρ, H)))) Q := by
  have key : ∀ (j : Nat) (vs : List Value) (ρ' : Env) (H : Heap) (m : Nat), j < m → wipe ks ρ' = putL (wipe ks ρ) sl vs → I j vs H → Ok (run1 C call n base f m0 res (fin C call n base (.lp c ks m :: k) (some (.normal, ρ', H)))) Q := by
    intro j
    induction j using Nat.strongRecOn with
    | _ j ih =>
      intro vs ρ' H m hm hw h
      obtain ⟨m, rfl⟩ : ∃ m', m = m' + 1 := ⟨m - 1, by omega⟩
      rw [fin_lp, hw]
      exact step j m vs H h fun j' vs' ρ'' H' hj hw' h' => ih j' hj vs' ρ'' H' m (by omega) hw' h'
  exact key j vs ρ H m hm hw h
end
/-- A list that a function has made: m elements of es cells each. -/
def OwnL (k : Nat) (H : Heap) (el es : Nat) (s : Value) (m : Nat) (cs : List Value) : Prop :=
  cs.length = m * es ∧ ((s = .slice none 0 0 ∧ m = 0 ∧ cs = []) ∨ ∃ b, k ≤ b ∧ s = .slice (some ⟨b, 0, some es⟩) m m ∧ hget H b = some (el, cs))
/-- What an append of one newly made element leaves. -/
def apH (H : Heap) (x y : Option (TypeId × List Value)) : Value → Heap
  | .slice (some a) _ _ => (H ++ [x]).set a.block none ++ [y]
  | _ => H ++ [x] ++ [y]
section
variable {P : Program} {base k0 : Nat} {H H0 : Heap} {t : TypeId} {el es m : Nat} {s z : Value} {cs ys : List Value}
theorem OwnL.nil (k : Nat) (H : Heap) (el es : Nat) : OwnL k H el es (.slice none 0 0) 0 [] := ⟨by simp, .inl ⟨rfl, rfl, rfl⟩⟩
theorem OwnL.empty (H : Heap) (el es : Nat) {k : Nat} (hk : k ≤ H.length) : OwnL k (H ++ [some (el, [])]) el es (.slice (some ⟨H.length, 0, some es⟩) 0 0) 0 [] := ⟨by simp, .inr ⟨H.length, hk, rfl, by simp [hget]⟩⟩
theorem OwnL.shows (h : OwnL k0 H el es s m cs) : Shows H es s m cs := by
  obtain ⟨h0, h | ⟨b, _, rfl, h⟩⟩ := h
  · exact .inl ⟨h.1, h.2.1, h.2.2⟩
  · exact .inr ⟨b, 0, m, el, cs, rfl, h, by omega, by simp [List.take_of_length_le (Nat.le_of_eq h0)], Nat.le_refl _⟩
theorem OwnL.keep {H' : Heap} (h : OwnL k0 H el es s m cs) (hk : Keeps H.length H H') : OwnL k0 H' el es s m cs := by
  obtain ⟨h0, h | ⟨b, hb, rfl, h⟩⟩ := h
  · exact ⟨h0, .inl h⟩
  · obtain ⟨F, rfl⟩ := keeps_append hk
    exact ⟨h0, .inr ⟨b, hb, rfl, hget_old h F⟩⟩
/-- One more element. -/
theorem OwnL.app (h : OwnL k0 H el es s m cs) (ts : TyS P t el es z) (hb : base ≤ k0) (hy : ys.length = es) (hr : m + 1 ≤ room) :
    appendA P base (H ++ [some (el, ys)]) t s (.slice (some ⟨H.length, 0, some es⟩) 1 1) = some (.slice (some ⟨H.length + 1, 0, some es⟩) (m + 1) (m + 1), apH H (some (el, ys)) (some (el, cs ++ ys)) s) := by
  obtain ⟨h0, ⟨rfl, rfl, rfl⟩ | ⟨b, hkb, rfl, h⟩⟩ := h
  · rw [ap_nil ts (m2 := 1) (ys := ys) (cellsA_new (b := H.length) (T := el) (by simp [hget]) (by omega)) (by decide) (by decide)]
    simp [apH]
  · exact ap_one ts (Nat.le_trans hb hkb) h h0 hy hr
theorem OwnL.next (h : OwnL k0 H el es s m cs) (hk : k0 ≤ H.length) (hy : ys.length = es) {x : Option (TypeId × List Value)} : OwnL k0 (apH H x (some (el, cs ++ ys)) s) el es (.slice (some ⟨H.length + 1, 0, some es⟩) (m + 1) (m + 1)) (m + 1) (cs ++ ys) := by
  refine ⟨by rw [List.length_append, h.1, hy, Nat.succ_mul], .inr ⟨H.length + 1, by omega, rfl, ?_⟩⟩
  obtain ⟨h0, ⟨rfl, rfl, rfl⟩ | ⟨b, hkb, rfl, h⟩⟩ := h <;> simp [apH, hget]
theorem OwnL.keeps (h : OwnL k0 H el es s m cs) (hk : Keeps k0 H0 H) (h0 : k0 ≤ H0.length) {x y : Option (TypeId × List Value)} : Keeps k0 H0 (apH H x y s) := by
  have h1 := hk.1
  obtain ⟨_, ⟨rfl, rfl, rfl⟩ | ⟨b, hkb, rfl, h⟩⟩ := h
  · exact (hk.trans (.append (by omega) _)).trans (.append (by simp; omega) _)
  · exact ((hk.trans (.append (by omega) _)).trans (.set hkb none)).trans (.append (by simp; omega) _)
/-- The other blocks behind it. -/
theorem OwnL.other (h : OwnL k0 H el es s m cs) {x y : Option (TypeId × List Value)} {b : Nat} {c : TypeId × List Value} (hg : hget H b = some c) (hb : b < k0) : hget (apH H x y s) b = some c := by
  have hbl : b < H.length := by
    rcases Nat.lt_or_ge b H.length with h1 | h1
    · exact h1
    · unfold hget at hg; rw [List.getElem?_eq_none h1] at hg; cases hg
  obtain ⟨_, ⟨rfl, rfl, rfl⟩ | ⟨b', hkb, rfl, h⟩⟩ := h
  · exact hget_old (hget_old hg _) _
  · refine hget_old ?_ _
    unfold hget at hg ⊢
    rw [List.getElem?_set_ne (by show b' ≠ b; omega), List.getElem?_append_left hbl]; exact hg
theorem OwnL.hand {old acc : Heap} {l : List Value} (h : OwnL k0 old el es s m cs) (ht : tySize P el = some es) (hG : cs.all isG = true) :
    ∃ s' F old', takeVals P k0 (s :: l) old acc = (takeVals P k0 l old' (acc ++ F)).map (fun y => (s' :: y.1, y.2)) ∧ OwnL acc.length (acc ++ F) el es s' m cs := by
  obtain ⟨h0, ⟨rfl, rfl, rfl⟩ | ⟨b, hkb, rfl, h⟩⟩ := h
  · exact ⟨_, [], old, by rw [tv_snil, List.append_nil], .nil _ _ _ _⟩
  · exact ⟨_, _, _, tv_own hkb h h0 ht hG, ⟨h0, .inr ⟨acc.length, Nat.le_refl _, rfl, by simp [hget]⟩⟩⟩
end
end Go.Am

namespace Go.Am
section
variable {H : Heap} {k k0 el es el' es' m m' : Nat} {v s : Value} {cs cs' : List Value} {x y : Option (TypeId × List Value)}
/-- A list of another type stands behind an append. -/
theorem OwnL.past (h : OwnL k H el es v m cs) (h' : OwnL k0 H el' es' s m' cs') (hne : el ≠ el') : OwnL k (apH H x y s) el es v m cs := by
  obtain ⟨h0, h1 | ⟨b, hb, rfl, hg⟩⟩ := h
  · exact ⟨h0, .inl h1⟩
  · refine ⟨h0, .inr ⟨b, hb, rfl, ?_⟩⟩
    have hbl : b < H.length := by
      rcases Nat.lt_or_ge b H.length with h1 | h1
      · exact h1
      · unfold hget at hg; rw [List.getElem?_eq_none h1] at hg; cases hg
    obtain ⟨_, ⟨rfl, rfl, rfl⟩ | ⟨b', hkb, rfl, h⟩⟩ := h'
    · exact hget_old (hget_old hg _) _
    · refine hget_old ?_ _
      have hbb : b' ≠ b := fun e => by
        subst e; rw [hg] at h
        simp only [Option.some.injEq, Prod.mk.injEq] at h
        exact hne h.1
      unfold hget at hg ⊢
      rw [List.getElem?_set_ne hbb, List.getElem?_append_left hbl]; exact hg
theorem OwnL.low {k' : Nat} (h : OwnL k H el es v m cs) (hk : k' ≤ k) : OwnL k' H el es v m cs := by
  obtain ⟨h0, h1 | ⟨b, hb, h2⟩⟩ := h
  · exact ⟨h0, .inl h1⟩
  · exact ⟨h0, .inr ⟨b, Nat.le_trans hk hb, h2⟩⟩
end
end Go.Am

namespace Go.Am
theorem prun_bind {α γ : Type} {P : Program} (f : α → Sem γ) : ∀ s : Sem α, prun P (s >>= f) = (prun P s).bind fun a => prun P (f a) := by
  intro s
  induction s with
  | pure a => rfl
  | program k ih => exact ih P
  | mark _ k ih => exact ih
  | choose q k ih =>
    show prun P (Sem.choose q fun i => (k i) >>= f) = _
    simp only [prun]
    split
    · exact ih 0
    · rfl
  | _ => rfl
theorem prun_map {α γ : Type} {P : Program} (f : α → γ) (s : Sem α) : prun P (f <$> s) = (prun P s).map f := by
  rw [map_eq_pure_bind, prun_bind]
  cases prun P s <;> rfl
theorem prun_under {P : Program} {t : TypeId} {u : TypeDesc} (h : P.underlying t = some u) : prun P (underlying t) = some u := by
  unfold underlying
  rw [prun_bind]
  show prun P (match P.underlying t with | some d => pure d | none => stuck "no such type") = _
  rw [h]; rfl
section
variable {C : Cfg} {P : Program} {call : Nat → CallF} {base : Nat} {dr : Bool} {ρ : Env} {H : Heap} {d : Option Tmp} {t u : TypeId} {p : String} {e : Array Edge} {g : Option (Nat × Bool)}
/-- A byte of a string. -/
def idx1 (C : Cfg) (H : Heap) (t : TypeId) (a i : Value) : Option (Value × Heap) := match a, i with
  | .string s, .int _ i => if 0 ≤ i ∧ P_str C.P t = true then (s[i.toNat]?).map fun b => (.int .u8 b.toNat, H) else none
  | _, _ => none
where P_str (P : Program) (t : TypeId) : Bool := match P.underlying t with | some .string => true | _ => false
theorem eo_index {x y : Operand} {s : ByteArray} {K : IntKind} {i : Nat} {b : UInt8} (hx : ev ρ x = .string s) (hy : ev ρ y = .int K i) (hb : s[i]? = some b) (ht : C.P.underlying t = some .string) :
    evalOp C call base dr ⟨d, .index t x y, u, p, e, g⟩ ρ H = some (.int .u8 b.toNat, H) := by
  show valH H (groundA C.P ρ ⟨d, .index t x y, u, p, e, g⟩) = _
  have hG : (Op.index t x y).operands.toList.all (fun z => isG (ev ρ z)) = true := by
    show ([x, y] : List Operand).all _ = true
    simp [hx, hy, isG, sc]
  have hr : prun C.P (execOp (ev ρ) ⟨d, .index t x y, u, p, e, g⟩) = some (.value (.int .u8 b.toNat)) := by
    simp only [execOp]
    rw [hx, hy]
    have : prun C.P (Instr.index t (.string s) (.int K i)) = some (.int .u8 b.toNat) := by
      unfold Instr.index
      rw [prun_bind]
      show (some (K, (i : Int))).bind _ = _
      rw [Option.bind_some, prun_bind, prun_under ht, Option.bind_some]
      simp only [if_pos (Int.natCast_nonneg i), Int.toNat_natCast, hb]
      rfl
    first
      | rw [prun_map, this]; rfl
      | (rw [prun_bind, this]; rfl)
  unfold groundA
  rw [if_pos hG, hr]
  rfl
theorem eo_convI {x : Operand} {K K' : IntKind} {i : Int} (hx : ev ρ x = .int K' i) (hs : ∃ k, C.P.underlying t = some (.int k)) (hd : C.P.underlying u = some (.int K)) {u' : TypeId} :
    evalOp C call base dr ⟨d, .convert t u x, u', p, e, g⟩ ρ H = some (.int K (K.wrap i), H) := by
  obtain ⟨k, hs⟩ := hs
  show convA C.P ρ _ H t u (ev ρ x) = _
  rw [hx]
  show valH H (groundA C.P ρ ⟨d, .convert t u x, u', p, e, g⟩) = _
  have hG : (Op.convert t u x).operands.toList.all (fun z => isG (ev ρ z)) = true := by
    show ([x] : List Operand).all _ = true
    simp [hx, isG, sc]
  have hr : prun C.P (execOp (ev ρ) ⟨d, .convert t u x, u', p, e, g⟩) = some (.value (.int K (K.wrap i))) := by
    simp only [execOp]
    rw [hx]
    have : prun C.P (convert t u (.int K' i)) = some (.int K (K.wrap i)) := by
      unfold convert
      rw [prun_bind, prun_under hs, Option.bind_some, prun_bind, prun_under hd, Option.bind_some]
      rfl
    first
      | rw [prun_map, this]; rfl
      | (rw [prun_bind, this]; rfl)
  unfold groundA
  rw [if_pos hG, hr]
  rfl
end
end Go.Am

/- A small machine over lists in the place of the memory: pieces of slices. No conditions. -/
namespace Go.Am
set_option linter.unusedVariables false
set_option linter.unusedSimpArgs false
section
variable {C : Cfg} {P : Program} {t' : TypeId} {call : Nat → CallF} {base n : Nat} {dr : Bool} {ρ : Env} {H : Heap} {d : Option Tmp} {t u : TypeId} {p : String} {e : Array Edge} {g : Option (Nat × Bool)}
def sl1 (C : Cfg) (ρ : Env) (o : Oper) (H : Heap) (t : TypeId) (lo hi mx : Option Value) (v : Value) : Option (Value × Heap) := match v with
  | .string _ => valH H (groundA C.P ρ o)
  | v => valH H (sliceA C.P t v lo hi mx)
@[go_sem] theorem eo_slice {x : Operand} {lo hi mx : Option Operand} : evalOp C call base dr ⟨d, .slice t x lo hi mx, u, p, e, g⟩ ρ H = sl1 C ρ ⟨d, .slice t x lo hi mx, u, p, e, g⟩ H t (lo.map (ev ρ)) (hi.map (ev ρ)) (mx.map (ev ρ)) (ev ρ x) := by
  simp only [evalOp, sl1]
  split
  · rename_i h; simp [h]
  · rename_i h; split
    · rename_i h2; exact absurd h2 (h _)
    · rfl
@[go_sem] theorem sl1_s {o : Oper} {lo hi mx : Option Value} {a : Option Addr} {m c : Nat} : sl1 C ρ o H t lo hi mx (.slice a m c) = valH H (sliceA C.P t (.slice a m c) lo hi mx) := rfl
@[go_sem] theorem o_mn {α γ : Type} {f : α → γ} : (none : Option α).map f = none := rfl
theorem b_eqb {a b : Bool} {x y : Operand} (h : isBoT P t = true) : bin2 P ρ ⟨d, .binOp .eql t x y u, t', p, e, g⟩ H .eql (.bool a) (.bool b) = some (.bool (a == b), H) := by
  unfold bin2 binA; simp [h, valH]
theorem b_neb {a b : Bool} {x y : Operand} (h : isBoT P t = true) : bin2 P ρ ⟨d, .binOp .neq t x y u, t', p, e, g⟩ H .neq (.bool a) (.bool b) = some (.bool (a != b), H) := by
  unfold bin2 binA; simp [h, valH]
theorem b_eqnil {ad : Addr} {m c : Nat} {x : Operand} {y : Value} (h : isSlT P t = true) : bin2 P ρ ⟨d, .binOp .eql t x (.const (.slice none 0 0)) u, t', p, e, g⟩ H .eql (.slice (some ad) m c) y = some (.bool false, H) := by
  unfold bin2 binA; simp [h, valH]
theorem b_nenil {ad : Addr} {m c : Nat} {x : Operand} {y : Value} (h : isSlT P t = true) : bin2 P ρ ⟨d, .binOp .neq t x (.const (.slice none 0 0)) u, t', p, e, g⟩ H .neq (.slice (some ad) m c) y = some (.bool true, H) := by
  unfold bin2 binA; simp [h, valH]
@[go_sem] theorem b_eqnil0 {x : Operand} {y : Value} : bin2 P ρ ⟨d, .binOp .eql t x (.const (.slice none 0 0)) u, t', p, e, g⟩ H .eql (.slice none 0 0) y = if isSlT P t = true then some (.bool true, H) else none := by
  unfold bin2 binA; simp only []; split <;> rfl
@[go_sem] theorem b_nenil0 {x : Operand} {y : Value} : bin2 P ρ ⟨d, .binOp .neq t x (.const (.slice none 0 0)) u, t', p, e, g⟩ H .neq (.slice none 0 0) y = if isSlT P t = true then some (.bool false, H) else none := by
  unfold bin2 binA; simp only []; split <;> rfl
end
end Go.Am

/- A small machine over lists in the place of the memory: appends. No conditions. -/
namespace Go.Am
set_option linter.unusedVariables false
set_option linter.unusedSimpArgs false
section
variable {P : Program} {base k0 : Nat} {H H0 : Heap} {t : TypeId} {el es m m2 : Nat} {s x z : Value} {cs ys : List Value}
theorem hget_lt {b : Nat} {c : TypeId × List Value} (h : hget H b = some c) : b < H.length := by
  rcases Nat.lt_or_ge b H.length with h1 | h1
  · exact h1
  · unfold hget at h; rw [List.getElem?_eq_none h1] at h; cases h
/-- Elements behind a list that a function has made. -/
theorem OwnL.apps (h : OwnL k0 H el es s m cs) (hx : Shows H es x m2 ys) (ts : TyS P t el es z) (hb : base ≤ k0) (hk : k0 ≤ H.length) (hr : m + m2 ≤ room) :
    ∃ s' H', appendA P base H t s x = some (s', H') ∧ OwnL k0 H' el es s' (m + m2) (cs ++ ys) ∧ Keeps k0 H H' := by
  have hy := hx.cells
  have hl := hx.len
  by_cases h0 : m2 = 0
  · subst h0
    obtain rfl : ys = [] := List.eq_nil_of_length_eq_zero (by omega)
    have hz : (tyZero P el).any (fun z => decide (z.cells.size = es ∧ isC z = true)) = true := by rw [ts.zero]; simp [ts.ok]
    have hb2 := ts.bytes
    refine ⟨s, H, ?_, by simpa using h, .refl _ _⟩
    unfold appendA
    simp only [ts.elem, ts.size, Option.bind_some, hy, hb2, ts.ok, hz, true_and, and_self, if_true]
    obtain ⟨_, ⟨rfl, rfl, rfl⟩ | ⟨b, hkb, rfl, hg⟩⟩ := h
    · simp
    · simp
  · obtain ⟨h1, ⟨rfl, rfl, rfl⟩ | ⟨b, hkb, rfl, hg⟩⟩ := h
    · refine ⟨_, _, ap_nil ts hy h0 (by omega), ⟨by simp [hl], .inr ⟨H.length, hk, by simp, by simp [hget]⟩⟩, .append hk _⟩
    · refine ⟨_, _, ap_eq ts (Nat.le_trans hb hkb) hg h1 hy h0 hr, ⟨by rw [List.length_append, h1, hl, Nat.add_mul], .inr ⟨H.length, hk, rfl, by simp [hget]⟩⟩, ?_⟩
      exact (Keeps.set hkb none).trans (.append (by simpa using hk) _)
theorem Shows.low {k : Nat} {H' : Heap} {n : Nat} (h : Shows H es s n cs) (hk : Keeps k H H') (hl : H.length ≤ k) : Shows H' es s n cs := by
  refine h.keep2 (k := 0) fun b o m c e => ?_
  rcases h with ⟨h1, _⟩ | ⟨b', o', cap, T, cs0, h1, h2, _⟩
  · rw [h1] at e; cases e
  · rw [h1] at e; cases e
    exact keeps_hget hk (Nat.lt_of_lt_of_le (hget_lt h2) hl)
end
section
variable {P : Program} {base : Nat} {H : Heap} {t : TypeId} {el es n : Nat} {z : Value}
theorem bs_two2 {a b c d : Value} (h : TyS P t el 2 z) (ha : isCell a = true) (hb : isCell b = true) (hc : isCell c = true) (hd : isCell d = true) : buildSliceA P H t 2 [(0, .agg #[a, b]), (1, .agg #[c, d])] = some (.slice (some ⟨H.length, 0, some 2⟩) 2 2, H ++ [some (el, [a, b, c, d])]) := by
  have hz := h.ok.2.2
  obtain ⟨y, y', hy⟩ : ∃ y y', z.cells.toList = [y, y'] := by
    have hq : z.cells.toList.length = 2 := by rw [Array.length_toList]; exact hz
    match hl : z.cells.toList, hq with
    | [y, y'], _ => exact ⟨y, y', rfl⟩
  have c1 : (Value.agg #[a, b]).cells = #[a, b] := rfl
  have c2 : (Value.agg #[c, d]).cells = #[c, d] := rfl
  unfold buildSliceA
  simp only [h.elem, h.size, h.zero, Option.bind_some, h.ok, true_and, fillA, hy, c1, c2]
  simp [setAll, ha, hb, hc, hd]
theorem bs_one2 {a b : Value} (h : TyS P t el 2 z) (ha : isCell a = true) (hb : isCell b = true) : buildSliceA P H t 1 [(0, .agg #[a, b])] = some (.slice (some ⟨H.length, 0, some 2⟩) 1 1, H ++ [some (el, [a, b])]) := by
  have hz := h.ok.2.2
  obtain ⟨y, y', hy⟩ : ∃ y y', z.cells.toList = [y, y'] := by
    have hq : z.cells.toList.length = 2 := by rw [Array.length_toList]; exact hz
    match hl : z.cells.toList, hq with
    | [y, y'], _ => exact ⟨y, y', rfl⟩
  have c1 : (Value.agg #[a, b]).cells = #[a, b] := rfl
  unfold buildSliceA
  simp only [h.elem, h.size, h.zero, Option.bind_some, h.ok, true_and, fillA, hy, c1]
  simp [setAll, ha, hb]
theorem new_shows {T : TypeId} {cs : List Value} (h : cs.length = n * es) : Shows (H ++ [some (T, cs)]) es (.slice (some ⟨H.length, 0, some es⟩) n n) n cs :=
  .inr ⟨H.length, 0, n, T, cs, rfl, by simp [hget], by omega, by simp [List.take_of_length_le (Nat.le_of_eq h)], Nat.le_refl _⟩
end
end Go.Am

/- A small machine over lists in the place of the memory: one block that calls turn, lists beside it. No conditions. -/
namespace Go.Am
set_option linter.unusedVariables false
set_option linter.unusedSimpArgs false
section
variable {C : Cfg} {P : Program} {call : Nat → CallF} {base n : Nat} {dr : Bool} {ρ : Env} {H : Heap} {d : Option Tmp} {t u : TypeId} {p : String} {e : Array Edge} {g : Option (Nat × Bool)}
def nil1 (H : Heap) : Value → Option (Value × Heap)
  | .pointer (some a) => some (.pointer (some a), H)
  | .func (.func g) f c => some (.func (.func g) f c, H)
  | _ => none
@[go_sem] theorem eo_nilCheck {x : Operand} : evalOp C call base dr ⟨d, .nilCheck x, u, p, e, g⟩ ρ H = nil1 H (ev ρ x) := by
  simp only [evalOp, nil1]
  rfl
@[go_sem] theorem nil1_p {a : Addr} : nil1 H (.pointer (some a)) = some (.pointer (some a), H) := rfl
theorem res_cell {i : Tmp} {l : List ResultVar} {b o : Nat} {v : Value} (h1 : ρ.getD i undef = .pointer (some ⟨b, o, none⟩)) (h2 : ld1 P t o (hget H b) = some v) : resA P ρ H (.cell i t :: l) = (resA P ρ H l).map (v :: ·) := by
  show (loadA P H t (ρ.getD i undef)).bind _ = _
  rw [h1, loadA_p, h2]; rfl
end
/-- The block of a slice. -/
def blkV : Value → Option Nat
  | .slice (some a) _ _ => some a.block
  | _ => none
/-- Only one block has turned, others have come. -/
def Onl (b : Nat) (H H' : Heap) : Prop := H.length ≤ H'.length ∧ ∀ i, i < H.length → i ≠ b → H'[i]? = H[i]?
theorem Onl.refl (b : Nat) (H : Heap) : Onl b H H := ⟨Nat.le_refl _, fun _ _ _ => rfl⟩
theorem Onl.trans {b : Nat} {X Y Z : Heap} (h : Onl b X Y) (k : Onl b Y Z) : Onl b X Z := ⟨Nat.le_trans h.1 k.1, fun i hi hb => (k.2 i (Nat.lt_of_lt_of_le hi h.1) hb).trans (h.2 i hi hb)⟩
theorem Onl.append (b : Nat) (H F : Heap) : Onl b H (H ++ F) := ⟨by simp, fun i hi _ => List.getElem?_append_left hi⟩
theorem Onl.set (b : Nat) (H : Heap) (x : Option (TypeId × List Value)) : Onl b H (H.set b x) := ⟨by simp, fun i _ hb => List.getElem?_set_ne (Ne.symm hb)⟩
theorem Onl.keeps {b k : Nat} {H H' : Heap} (h : Onl b H H') (hk : k ≤ b) (hl : k ≤ H.length) : Keeps k H H' := ⟨h.1, fun i hi => h.2 i (by omega) (by omega)⟩
theorem Onl.get {b i : Nat} {H H' : Heap} {c : TypeId × List Value} (h : Onl b H H') (hg : hget H i = some c) (hi : i ≠ b) : hget H' i = some c := by
  unfold hget at hg ⊢; rw [h.2 i (hget_lt hg) hi]; exact hg
section
variable {P : Program} {base k0 b T : Nat} {H H' H0 : Heap} {t : TypeId} {el es m m2 : Nat} {s x z : Value} {cs ys cb : List Value}
/-- A list stands where another block turns. -/
theorem OwnL.onl (h : OwnL k0 H el es s m cs) (hb : hget H b = some (T, cb)) (hne : T ≠ el) (ho : Onl b H H') : OwnL k0 H' el es s m cs := by
  obtain ⟨h0, h1 | ⟨b', hb', rfl, hg⟩⟩ := h
  · exact ⟨h0, .inl h1⟩
  · refine ⟨h0, .inr ⟨b', hb', rfl, ho.get hg fun e => ?_⟩⟩
    subst e; rw [hb] at hg; cases hg; exact hne rfl
/-- Elements, one at least, behind a list that a function has made. -/
theorem OwnL.apps1 (h : OwnL k0 H el es s m cs) (hx : Shows H es x m2 ys) (ts : TyS P t el es z) (hb : base ≤ k0) (hk : k0 ≤ H.length) (hr : m + m2 ≤ room) (h0 : m2 ≠ 0) :
    ∃ s' H', appendA P base H t s x = some (s', H') ∧ OwnL k0 H' el es s' (m + m2) (cs ++ ys) ∧ Keeps k0 H H' ∧ blkV s' = some H.length ∧ H.length < H'.length ∧
      ∀ i, i < H.length → blkV s ≠ some i → H'[i]? = H[i]? := by
  have hy := hx.cells
  have hl := hx.len
  obtain ⟨h1, ⟨rfl, rfl, rfl⟩ | ⟨b, hkb, rfl, hg⟩⟩ := h
  · refine ⟨_, _, ap_nil ts hy h0 (by omega), ⟨by simp [hl], .inr ⟨H.length, hk, by simp, by simp [hget]⟩⟩, .append hk _, rfl, by simp, fun i hi _ => List.getElem?_append_left hi⟩
  · refine ⟨_, _, ap_eq ts (Nat.le_trans hb hkb) hg h1 hy h0 hr, ⟨by rw [List.length_append, h1, hl, Nat.add_mul], .inr ⟨H.length, hk, rfl, by simp [hget]⟩⟩, ?_, rfl, by simp, fun i hi hne => ?_⟩
    · exact (Keeps.set hkb none).trans (.append (by simpa using hk) _)
    · have hbi : b ≠ i := fun e => hne (by rw [e]; rfl)
      rw [List.getElem?_append_left (by simpa using hi), List.getElem?_set_ne hbi]
/-- A block of another type stands behind an append. -/
theorem OwnL.blk (h : OwnL k0 H el es s m cs) (hg : hget H b = some (T, cb)) (hne : T ≠ el) : blkV s ≠ some b := by
  obtain ⟨h0, ⟨rfl, _⟩ | ⟨b', hb', rfl, hg'⟩⟩ := h
  · exact fun e => nomatch e
  · intro e
    obtain rfl : b' = b := Option.some.inj e
    rw [hg] at hg'; cases hg'; exact hne rfl
theorem OwnL.lt (h : OwnL k0 H el es s m cs) : ∀ i, blkV s = some i → i < H.length := by
  obtain ⟨h0, ⟨rfl, _⟩ | ⟨b', hb', rfl, hg'⟩⟩ := h
  · exact fun i e => nomatch e
  · intro i e
    obtain rfl : b' = i := Option.some.inj e
    exact hget_lt hg'
theorem hget_eq {i : Nat} {c : TypeId × List Value} (h : H'[i]? = H[i]?) (hg : hget H i = some c) : hget H' i = some c := by unfold hget at hg ⊢; rw [h]; exact hg
/-- A list stands where others turn. -/
theorem OwnL.stay (h : OwnL k0 H el es s m cs) (hs : ∀ i, blkV s = some i → H'[i]? = H[i]?) : OwnL k0 H' el es s m cs := by
  obtain ⟨h0, h1 | ⟨b', hb', rfl, hg'⟩⟩ := h
  · exact ⟨h0, .inl h1⟩
  · exact ⟨h0, .inr ⟨b', hb', rfl, hget_eq (hs b' rfl) hg'⟩⟩
end
end Go.Am

/- A small machine over lists in the place of the memory: what functions told by proofs of their own leave. No conditions. -/
namespace Go.Am
set_option linter.unusedVariables false
/-- A new block: 'arr' bears the cells 'cs' from 'off' on; an elder block 'kill' may die. -/
theorem Post.newRow {nf base : Nat} {β : Beta} {H : Heap} {w w' : World} (hs : Sim nf β H w) (T : TypeId) (cs : List Value) (B N : Nat)
    (hB : w.heap.size ≤ B) (hBlt : B < w'.heap.size) (hsz : w.heap.size ≤ w'.heap.size) (hos : w'.os = w.os) (htp : w'.tape = w.tape) (hout : w'.output = w.output)
    (hold : ∀ k, k < w.heap.size → w'.heap[k]? = w.heap[k]?)
    (hcs : ∀ i, i < cs.length → isCell (cs.getD i undef) = true ∧ ∃ u, w'.cell? ⟨B, i, none⟩ = some u ∧ VR β (cs.getD i undef) u)
    (hN : cs.length ≤ N) (hrow : ∀ off, off < N → (w'.cell? ⟨B, off, none⟩).isSome = true ∧ w'.frozen? ⟨B, off, none⟩ = false)
    (H1 : Heap) (hlen : H1.length = H.length) (hH1 : ∀ b : Nat, H1[b]? = H[b]? ∨ H1[b]? = some none) :
    Post nf base β H w (upd β H.length (B, 0, N)) (H1 ++ [some (T, cs)]) w' := by
  have hsub := Sub.upd hs (B, 0, N)
  have hcell : ∀ a : Addr, a.block < w.heap.size → w'.cell? a = w.cell? a := fun a ha => World.cell?_of_block (w := w) (hold _ ha)
  have hfroz : ∀ a : Addr, a.block < w.heap.size → w'.frozen? a = w.frozen? a := fun a ha => World.frozen?_of_block (w := w) (hold _ ha)
  have hg : ∀ b c, (H1 ++ [some (T, cs)])[b]? = some (some c) → (b = H.length ∧ c = (T, cs)) ∨ (b < H.length ∧ H[b]? = some (some c)) := by
    intro b c h
    rw [get_snoc, hlen] at h
    by_cases hb : b = H.length
    · rw [if_pos hb] at h; exact .inl ⟨hb, by simpa using h.symm⟩
    · rw [if_neg hb] at h
      rcases hH1 b with e | e
      · rw [e] at h; exact .inr ⟨(List.getElem?_eq_some_iff.1 h).1, h⟩
      · rw [e] at h; simp at h
  have hl : ∀ b, live (H1 ++ [some (T, cs)]) b → b = H.length ∨ (b < H.length ∧ live H b) := by
    rintro b ⟨T', cs', h⟩
    rcases hg b _ h with ⟨h1, _⟩ | ⟨h1, h2⟩
    · exact .inl h1
    · exact .inr ⟨h1, _, _, h2⟩
  have hup : ∀ b x, upd β H.length (B, 0, N) b = some x → (b = H.length ∧ x = (B, 0, N)) ∨ (b ≠ H.length ∧ β b = some x) := by
    intro b x h
    unfold upd at h
    by_cases hb : b = H.length
    · rw [if_pos hb] at h; exact .inl ⟨hb, by simpa using h.symm⟩
    · rw [if_neg hb] at h; exact .inr ⟨hb, h⟩
  refine ⟨⟨?_, ?_, ?_, ?_, ?_⟩, by simp [hlen], ?_, hos, htp, hout, hsz, fun B hB _ => hold B hB, ?_, ?_⟩
  · intro b x h
    rcases hup b x h with ⟨h1, _⟩ | ⟨_, h2⟩
    · simp [h1, hlen]
    · have := hs.dom b x h2; simp [hlen]; omega
  · intro b B s N' h1 h2
    rcases hup b _ h2 with ⟨_, e⟩ | ⟨hb, h3⟩
    · simp only [Prod.mk.injEq] at e; omega
    · rcases hl b h1 with e | ⟨_, h4⟩
      · exact absurd e hb
      · have := hs.lt b B s N' h4 h3; omega
  · intro b T' cs' B s N' h1 h2 i hi
    rcases hg b _ h1 with ⟨hb, e⟩ | ⟨hb, h3⟩
    · rcases hup b _ h2 with ⟨_, e2⟩ | ⟨hb2, _⟩
      · simp only [Prod.mk.injEq] at e e2
        obtain ⟨rfl, rfl⟩ := e
        obtain ⟨rfl, rfl, rfl⟩ := e2
        obtain ⟨k1, u, k2, k3⟩ := hcs i hi
        exact ⟨k1, u, by simpa using k2, k3.mono hsub⟩
      · exact absurd hb hb2
    · rcases hup b _ h2 with ⟨e, _⟩ | ⟨_, h4⟩
      · omega
      · obtain ⟨k1, u, k2, k3⟩ := hs.cell b T' cs' B s N' h3 h4 i hi
        have hlt := hs.lt b B s N' ⟨_, _, h3⟩ h4
        exact ⟨k1, u, (hcell _ hlt).trans k2, k3.mono hsub⟩
  · intro b T' cs' B s N' h0 h1 h2
    rcases hg b _ h1 with ⟨hb, e⟩ | ⟨hb, h3⟩
    · rcases hup b _ h2 with ⟨_, e2⟩ | ⟨hb2, _⟩
      · simp only [Prod.mk.injEq] at e e2
        obtain ⟨rfl, rfl⟩ := e
        obtain ⟨rfl, rfl, rfl⟩ := e2
        exact ⟨by omega, hrow⟩
      · exact absurd hb hb2
    · rcases hup b _ h2 with ⟨e, _⟩ | ⟨_, h4⟩
      · omega
      · obtain ⟨k1, k2⟩ := hs.own b T' cs' B s N' h0 h3 h4
        have hlt := hs.lt b B s N' ⟨_, _, h3⟩ h4
        exact ⟨k1, fun off ho => by rw [hcell _ hlt, hfroz _ hlt]; exact k2 off ho⟩
  · intro b b' B s N' s' N'' h0 h1 h1' h2 h2'
    rcases hup b _ h2 with ⟨e1, e2⟩ | ⟨e1, h3⟩ <;> rcases hup b' _ h2' with ⟨e1', e2'⟩ | ⟨e1', h3'⟩
    · omega
    · simp only [Prod.mk.injEq] at e2
      rcases hl b' h1' with e | ⟨_, h4⟩
      · exact absurd e e1'
      · have := hs.lt b' _ _ _ h4 h3'; omega
    · simp only [Prod.mk.injEq] at e2'
      rcases hl b h1 with e | ⟨_, h4⟩
      · exact absurd e e1
      · have := hs.lt b _ _ _ h4 h3; omega
    · rcases hl b h1 with e | ⟨_, h4⟩
      · exact absurd e e1
      rcases hl b' h1' with e | ⟨_, h4'⟩
      · exact absurd e e1'
      exact hs.inj b b' B s N' s' N'' h0 h4 h4' h3 h3'
  · intro b hb
    unfold upd; rw [if_neg (by omega)]
  · intro b B s N' hb h1 h2
    rcases hup b _ h2 with ⟨_, e⟩ | ⟨hb2, h3⟩
    · simp only [Prod.mk.injEq] at e; exact .inl (by omega)
    · have := hs.dom b _ h3; omega
  · intro b hb h
    rcases hl b h with e | ⟨_, h4⟩
    · omega
    · exact h4
/-- Nothing that was there has turned. -/
theorem Post.ofBelow {nf base : Nat} {β : Beta} {H : Heap} {w w' : World} (hs : Sim nf β H w) (hb : RowKit.Below w.heap.size w w') : Post nf base β H w β H w' :=
  ⟨⟨hs.dom, fun b B s N h1 h2 => Nat.lt_of_lt_of_le (hs.lt b B s N h1 h2) hb.size,
    fun b T cs B s N h1 h2 i hi => by
      obtain ⟨k1, u, k2, k3⟩ := hs.cell b T cs B s N h1 h2 i hi
      exact ⟨k1, u, (hb.cell (p := ⟨B, s + i, none⟩) (hs.lt b B s N ⟨_, _, h1⟩ h2)).trans k2, k3⟩,
    fun b T cs B s N h0 h1 h2 => by
      obtain ⟨k1, k2⟩ := hs.own b T cs B s N h0 h1 h2
      have hlt := hs.lt b B s N ⟨_, _, h1⟩ h2
      exact ⟨k1, fun off ho => by rw [hb.cell (p := ⟨B, off, none⟩) hlt, hb.frozen (p := ⟨B, off, none⟩) hlt]; exact k2 off ho⟩,
    hs.inj⟩, Nat.le_refl _, fun _ _ => rfl, hb.os, hb.tape, hb.output, hb.size, fun B hB _ => hb.block B hB, fun b B s N h1 h2 h3 => absurd (hs.dom b _ h3) (by omega), fun _ _ h => h⟩
/-- Where only what is newer may turn, nothing that was there turns. -/
theorem Post.below {nf : Nat} {β β' : Beta} {H H' : Heap} {w w' : World} (hs : Sim nf β H w) (h : Post nf H.length β H w β' H' w') : RowKit.Below w.heap.size w w' :=
  ⟨h.os, h.tape, h.output, h.size, fun k hk => h.frame k hk fun b s N h1 h2 h3 => by have := hs.dom b _ h3; omega⟩
end Go.Am

/- A small machine over lists in the place of the memory: frames that are not written out, regions in pieces. No conditions. -/
namespace Go.Am
set_option linter.unusedVariables false
set_option linter.unusedSimpArgs false
-- frames that are not written out
def Hs (N : Nat) : List (Nat × Value) → Env → Prop
  | [], ρ => List.length ρ = N
  | (i, v) :: l, ρ => ρ.getD i undef = v ∧ Hs N l ρ
theorem Hs.len {N : Nat} : ∀ {l : List (Nat × Value)} {ρ : Env}, Hs N l ρ → List.length ρ = N
  | [], _, h => h
  | _ :: _, _, h => Hs.len h.2
theorem gs {ρ : Env} {i j : Nat} {v u : Value} : (List.set ρ i v).getD j u = if i = j then (if i < List.length ρ then v else ρ.getD j u) else ρ.getD j u := by
  rw [List.getD_eq_getElem?_getD, List.getD_eq_getElem?_getD, List.getElem?_set]
  by_cases h : i = j
  · subst h
    by_cases h2 : i < List.length ρ
    · simp [h2]
    · simp [h2]
  · simp [h]
section
variable {C : Cfg} {base : Nat} {H : Heap} {call : Nat → CallF} {n m0 : Nat} {ρ E : Env} {k : List It} {a b c : Code} {f : FuncId} {res : List ResultVar} {ks : List Tmp} {Q : Value → Heap → Prop}
theorem sqk (h : ∀ K, K = .code b :: k → Ok (run1 C call n base f m0 res (fin C call n base K (exec C call n base a ρ H))) Q) : Ok (run1 C call n base f m0 res (fin C call n base (.code (.seq a b) :: k) (some (.normal, ρ, H)))) Q := by
  rw [fin_code, fin_seq]; exact h _ rfl
theorem sq2 (h : ∀ K, K = .code b :: k → Ok (run1 C call n base f m0 res (fin C call n base K (exec C call n base a ρ H))) Q) : Ok (run1 C call n base f m0 res (fin C call n base k (exec C call n base (.seq a b) ρ H))) Q := by
  rw [fin_seq]; exact h _ rfl
theorem cdk (h : Ok (run1 C call n base f m0 res (fin C call n base k (exec C call n base c ρ H))) Q) : Ok (run1 C call n base f m0 res (fin C call n base (.code c :: k) (some (.normal, ρ, H)))) Q := by
  rw [fin_code]; exact h
theorem env_gen {N : Nat} (l : List (Nat × Value)) (hP : Hs N l E) (h : ∀ ρ, Hs N l ρ → Ok (run1 C call n base f m0 res (fin C call n base k (some (.normal, ρ, H)))) Q) : Ok (run1 C call n base f m0 res (fin C call n base k (some (.normal, E, H)))) Q := h E hP
theorem lp_env (I : Nat → Env → Heap → Prop) (step : ∀ (j m : Nat) (ρ : Env) (H : Heap), I j ρ H → (∀ (j' : Nat) (ρ' : Env) (H' : Heap), j' < j → I j' ρ' H' → Ok (run1 C call n base f m0 res (fin C call n base (.lp c ks m :: k) (some (.normal, ρ', H')))) Q) →
      Ok (run1 C call n base f m0 res (fin C call n base (.code c :: .lp c ks m :: k) (some (.normal, wipe ks ρ, H)))) Q) (j : Nat)
    {m : Nat} (hm : j < m) (h : I j ρ H) : Ok (run1 C call n base f m0 res (fin C call n base (.lp c ks m :: k) (some (.normal, ρ, H)))) Q := by
  have key : ∀ (j : Nat) (ρ' : Env) (H : Heap) (m : Nat), j < m → I j ρ' H → Ok (run1 C call n base f m0 res (fin C call n base (.lp c ks m :: k) (some (.normal, ρ', H)))) Q := by
    intro j
    induction j using Nat.strongRecOn with
    | _ j ih =>
      intro ρ' H m hm h
      obtain ⟨m, rfl⟩ : ∃ m', m = m' + 1 := ⟨m - 1, by omega⟩
      rw [fin_lp]
      exact step j m ρ' H h fun j' ρ'' H' hj h' => ih j' hj ρ'' H' m (by omega) h'
  exact key j ρ H m hm h
theorem wipe_len : ∀ (ks : List Tmp) (ρ : Env), List.length (wipe ks ρ) = List.length ρ
  | [], _ => rfl
  | i :: ks, ρ => by rw [wipe_cons, wipe_len ks]; simp
theorem wipe_get {i : Nat} {u : Value} : ∀ {ks : List Tmp} {ρ : Env}, ¬ i ∈ ks → (wipe ks ρ).getD i u = ρ.getD i u
  | [], _, _ => rfl
  | j :: ks, ρ, h => by
    rw [wipe_cons, wipe_get (fun e => h (List.mem_cons_of_mem _ e)), gs, if_neg (fun e => h (by rw [e]; exact List.mem_cons_self))]
theorem Hs.wipe' {N : Nat} {ks : List Tmp} : ∀ {l : List (Nat × Value)} {ρ : Env}, Hs N l ρ → (∀ p ∈ l, ¬ p.1 ∈ ks) → Hs N l (Am.wipe ks ρ)
  | [], ρ, h, _ => (wipe_len ks ρ).trans h
  | (i, v) :: l, ρ, h, hk => ⟨(wipe_get (hk (i, v) List.mem_cons_self)).trans h.1, Hs.wipe' h.2 fun p hp => hk p (List.mem_cons_of_mem _ hp)⟩
theorem Hs.wipe {N : Nat} {ks : List Tmp} {l : List (Nat × Value)} {ρ : Env} (h : Hs N l ρ) (hk : (l.all fun p => !(ks.contains p.1)) = true) : Hs N l (Am.wipe ks ρ) :=
  h.wipe' fun p hp hm => by
    have := List.all_eq_true.1 hk p hp
    simp at this
    exact this hm
end
section
variable {C : Cfg} {base : Nat} {H : Heap} {call : Nat → CallF} {n m0 : Nat} {ρ E : Env} {k : List It} {f : FuncId} {res : List ResultVar} {Q : Value → Heap → Prop}
theorem ops_app (dr : Bool) (gs : List (Option Tmp)) (l1 l2 : List Oper) : fin C call n base (.ops dr gs (l1 ++ l2) :: k) (some (.normal, ρ, H)) = fin C call n base (.ops dr gs l1 :: .ops dr gs l2 :: k) (some (.normal, ρ, H)) := by
  have key : ∀ (l1 : List Oper) (ρ : Env) (H : Heap), runG C call base dr gs (l1 ++ l2) ρ H = (runG C call base dr gs l1 ρ H).bind fun x => runG C call base dr gs l2 x.1 x.2 := by
    intro l1
    induction l1 with
    | nil => intro ρ H; rfl
    | cons o l1 ih =>
      intro ρ H
      show runG C call base dr gs (o :: (l1 ++ l2)) ρ H = _
      simp only [runG]
      cases wantG gs o ρ with
      | none => rfl
      | some q => cases q with
        | false => exact ih _ _
        | true =>
          simp only [Option.bind_some]
          cases evalOp C call base dr o ρ H with
          | none => rfl
          | some y => exact ih _ _
  simp only [fin, thenN, Option.bind_some, key]
  cases runG C call base dr gs l1 ρ H with
  | none => rfl
  | some x => rfl
theorem opsk (i : Nat) {dr : Bool} {gs : List (Option Tmp)} {l : List Oper} (h : ∀ K, K = .ops dr gs (l.drop i) :: k → Ok (run1 C call n base f m0 res (fin C call n base (.ops dr gs (l.take i) :: K) (some (.normal, ρ, H)))) Q) : Ok (run1 C call n base f m0 res (fin C call n base (.ops dr gs l :: k) (some (.normal, ρ, H)))) Q := by
  have := h _ rfl
  rwa [← ops_app, List.take_append_drop] at this
theorem uncd {c : Code} (h : Ok (run1 C call n base f m0 res (fin C call n base (.code c :: k) (some (.normal, ρ, H)))) Q) : Ok (run1 C call n base f m0 res (fin C call n base k (exec C call n base c ρ H))) Q := by
  rw [fin_code] at h; exact h
end
/-- A piece of code: 0 the first part (of two in a row, of a branch, of a block or a loop), 1 the second. -/
def nodeC : List Nat → Code → Code
  | [], c => c
  | 0 :: p, .seq a _ => nodeC p a
  | _ :: p, .seq _ b => nodeC p b
  | 0 :: p, .cond _ a _ => nodeC p a
  | _ :: p, .cond _ _ b => nodeC p b
  | _ :: p, .block _ c => nodeC p c
  | _ :: p, .loop c => nodeC p c
  | _, c => c
@[go_sem] theorem ex3_0 {H : Heap} {x y z : Value} : ext1 H 0 (.tuple #[x, y, z]) = some (x, H) := Eq.trans rfl rfl
@[go_sem] theorem ex3_1 {H : Heap} {x y z : Value} : ext1 H 1 (.tuple #[x, y, z]) = some (y, H) := Eq.trans rfl rfl
@[go_sem] theorem ex3_2 {H : Heap} {x y z : Value} : ext1 H 2 (.tuple #[x, y, z]) = some (z, H) := Eq.trans rfl rfl
theorem cd_t {C : Cfg} {call : Nat → CallF} {n base : Nat} {k : List It} {a b : Code} {ρ : Env} {H : Heap} {i : Tmp} (h : ρ.getD i undef = .bool true) : fin C call n base k (exec C call n base (.cond (.tmp i) a b) ρ H) = fin C call n base k (exec C call n base a ρ H) := by rw [fin_cond, ev_tmp, h, br_t]
theorem cd_f {C : Cfg} {call : Nat → CallF} {n base : Nat} {k : List It} {a b : Code} {ρ : Env} {H : Heap} {i : Tmp} (h : ρ.getD i undef = .bool false) : fin C call n base k (exec C call n base (.cond (.tmp i) a b) ρ H) = fin C call n base k (exec C call n base b ρ H) := by rw [fin_cond, ev_tmp, h, br_f]
end Go.Am

