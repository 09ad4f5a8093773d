/- Words for calls of function values. No program is named here. -/
import Derived.Test.YtjkjdlpmbpgjgaaWWords
import Derived.Test.YtjkjdlpmbpgjgaaWLast
import Derived.Test.YtjkjdlpmbpgjgaaWMore
import Derived.Lib.SliceRun
import Derived.Laws.IdiomCopy
import Derived.Laws.Rows
namespace Go.Proofs.YtjkjdlpmbpgjgaaW.PrintWords
open Go.RowKit Go.Proofs.YtjkjdlpmbpgjgaaW.PrintLast
set_option linter.unusedVariables false

section
variable {P : Program} {ops : Array Oper} {Q : Exit → Act → World → Prop}
/-- A call of a function value. -/
theorem goesV_ {rest : List Oper} {oi : Oper} {a : Act} {w : World} (N : Option Tmp) (hd : oi.dst = N) (hg : oi.guard = none) {f : FuncId} {fn : Func} {x : Operand} {as : Array Operand} {ts : Array TypeId} {first cap : Array Value} (hf : P.funcs[f]? = some fn) (hname : (fn.name == "runtime.NumGoroutine") = false) (hb : fn.body.isSome = true) (args : Array Value)
    (hop : oi.op = .call { callee := .value x, args := as, argTypes := ts }) (hx : a.eval x = .func (.func f) first cap) (hargs : (first ++ as.map a.eval) ++ cap = args)
    (h : Calls P f args w fun e w' => ∃ v, e = .returned v ∧ wpList P ops Q rest (a.put N v) w') : wpList P ops Q (oi :: rest) a w := by
  refine wpList_plain hg fun K hK => ?_
  have he := enters_ hf hname hb args w
  have hrun : (execOp a.eval oi).run P w = .ok (.enter f args) w := by
    unfold execOp
    simp [hop, resolve, hx, Deferred.ofValue, invoke, hargs, he]
  unfold Oper.wp
  rw [hrun, Oper.upon_enter]
  refine h.mono fun e w'' hh => ?_
  obtain ⟨v, rfl, hk⟩ := hh
  subst hd
  exact hK _ _ hk
end

/-- What a predicate's function value owes at the elements of a list, in all later worlds. -/
def Owes {α : Type} (P : Program) (fn : FuncId) (enc : α → Value) (cap : Array Value) (p : α → Bool) (l : List α) (w : World) : Prop :=
  ∀ x, x ∈ l → ∀ W, Below w.heap.size w W → Calls P fn (#[enc x] ++ cap) W fun e W' => e = .returned (.bool (p x)) ∧ Below W.heap.size W W'

theorem take_any_snoc {α : Type} (p : α → Bool) (l : List α) (k : Nat) (h : k < l.length) (z : α) (ha : (l.take k).any p = false) (hp : p (l.getD k z) = false) : (l.take (k + 1)).any p = false := by
  rw [List.take_succ_eq_append_getElem h, List.any_append, ha]
  simpa [List.getD_eq_getElem?_getD, List.getElem?_eq_getElem h] using hp
theorem any_of_at {α : Type} (p : α → Bool) (l : List α) (k : Nat) (h : k < l.length) (z : α) (hp : p (l.getD k z) = true) : l.any p = true := by
  rw [List.getD_eq_getElem?_getD, List.getElem?_eq_getElem h] at hp
  exact List.any_eq_true.2 ⟨l[k], List.getElem_mem h, hp⟩
theorem mem_getD {α : Type} (l : List α) (k : Nat) (h : k < l.length) (z : α) : l.getD k z ∈ l := by
  rw [List.getD_eq_getElem?_getD, List.getElem?_eq_getElem h]
  exact List.getElem_mem h
theorem R_empty {α : Type} (d : Kd α) (e : Nat) (w : World) : d.R e (w.alloc (.cells #[] e)) w.heap.size (fun _ => True) (.slice (some ⟨w.heap.size, 0, none⟩) 0 0) [] :=
  ⟨fun _ _ => trivial, [], ⟨by simp, .inr ⟨w.heap.size, 0, #[], rfl, Nat.le_refl _, heap_alloc_new w _, Nat.le_refl _, by unfold maxLen; omega, by simp, by simp⟩⟩, Reps.none _ _⟩
theorem R_form {α : Type} {d : Kd α} {e : Nat} {w : World} {base : Nat} {ok : Nat → Prop} {v : Value} {xs : List α} (h : d.R e w base ok v xs) (h0 : 0 < xs.length) : ∃ g c, v = .slice (some ⟨g, 0, none⟩) xs.length c := by
  obtain ⟨_, inner, hown, _⟩ := h
  obtain ⟨g, cap, h1, _⟩ := hown.form h0
  exact ⟨g, cap, h1⟩
theorem clear_tail {α : Type} {P : Program} (d : Kd α) {W : World} (base t ty e : Nat) (z : Value) (ht : P.underlying t = some (.slice e)) (hv : ∀ w, (zeroValue e).run P w = .ok z w) (hz : z.cells.size = d.sz) (hz1 : (Builtin.zeroCells z.cells 1).toList.all (fun v => v.oneCell') = true) (hs0 : 0 < d.sz)
    {g m c : Nat} {xs : List α} {ok : Nat → Prop} (HO : d.R e W base ok (.slice (some ⟨g, 0, none⟩) m c) xs) (hmc : m + 1 ≤ c) (off n : Nat) (ho : off = m * d.sz) (hn : n = 1) :
    ∃ w2, (∀ c2, (Builtin.clear_ #[t] ty #[.slice (some ⟨g, off, none⟩) n c2]).run P W = .ok (.tuple #[]) w2) ∧ d.R e w2 base ok (.slice (some ⟨g, 0, none⟩) m c) xs ∧ W.grownBy w2 (some g) := by
  subst hn
  obtain ⟨hm, _, _⟩ := Kd.R_reads' HO
  obtain ⟨hok, inner, hown, hr⟩ := HO
  rcases hown.2 with ⟨hv', _⟩ | ⟨g', cap', cur, hv', hb, hh, _, hcm, hcs, htake⟩
  · cases hv'
  injection hv' with ha _ hc
  injection ha with ha
  injection ha with hg
  subst hg; subst hc
  obtain ⟨vs, hvs⟩ : ∃ vs, vs = (Builtin.zeroCells z.cells 1).toList := ⟨_, rfl⟩
  have hvl : vs.length = d.sz := by rw [hvs]; simp [Builtin.zeroCells, hz]
  rw [← hvs, List.all_eq_true] at hz1
  have hfit : off + vs.length ≤ cur.size := by
    rw [hvl, hcs, ho, ← Nat.succ_mul]
    exact Nat.mul_le_mul_right _ hmc
  have hst := run_storeCells_cells (P := P) g off vs 0 W (fun j hj => by rw [cell_of_row W g _ cur e (0, 0) hh]; simp; omega) (fun j _ => blk_frozen hh _) hz1
  simp only [Nat.add_zero] at hst
  obtain ⟨cur', h3, h4, h5⟩ := setCells_row vs off W cur hh hfit
  obtain ⟨s1, s2, s3, s4⟩ := setCells_same g vs off W
  have hfar : ∀ k', k' ≠ g → (W.setCells g off vs).heap[k']? = W.heap[k']? := fun k' hk' => setCells_far vs _ k' hk'
  have hgo : some g = (Value.slice (some ⟨g, 0, none⟩) m c).ownBlock := by simp [Value.ownBlock]
  refine ⟨W.setCells g off vs, ?_, ⟨hok, inner, ⟨hown.1, .inr ⟨g, c, cur', by rw [hm], hb, h3, by omega, hcm, by rw [h4, hcs], ?_⟩⟩, ?_⟩, ⟨s1, s2, s3, by rw [s4]; exact Nat.le_refl _, fun k' _ hk' => hfar k' (fun he => hk' (by rw [he]))⟩⟩
  · intro c2
    simp [Builtin.clear_, run_underlying ht, hv, ← hvs, hst]
  · rw [h5, ← htake, ho, hm, List.append_assoc]
    exact List.take_left' (by rw [List.length_take]; have : xs.length * d.sz ≤ cur.size := by rw [hcs]; exact Nat.mul_le_mul_right _ (by omega)
                              simp; omega)
  · exact hr.imp_ fun p q hp => d.M_move (fun k' hk' => hfar k' (fun he => hk'.2 (by rw [← hgo, he]))) hp
/-! ### short names, for printed texts that would be too long -/
theorem bN {w : World} {g : Nat} {o : Obj} (h : w.heap[g]? = some o) (n : Nat) : (w.drewN n).heap[g]? = some o := h
theorem bD {w : World} {g : Nat} {o : Obj} (h : w.heap[g]? = some o) : w.drew.heap[g]? = some o := h
theorem bA {w : World} {g : Nat} {o : Obj} (h : w.heap[g]? = some o) (o' : Obj) : (w.alloc o').heap[g]? = some o := blk_alloc h o'
theorem bC {w : World} {g : Nat} {t : TypeId} {cs : Array Value} (h : Aside0 (w.heap[g]? = some (.cells cs t (0, 0)))) (i : Nat) : w.cell? ⟨g, i, none⟩ = cs[i]? := blk_cell h.out i
theorem bB {w w1 : World} {g : Nat} {o : Obj} (h : w.heap[g]? = some o) (hb : Below w.heap.size w w1) : Aside0 (w1.heap[g]? = some o) := ⟨blk_below h hb⟩
theorem rW {α : Type} {d : Kd α} {e : Nat} {W w1 : World} {ok : Nat → Prop} {u v : Value} {xs : List α} (h : d.R e w1 W.heap.size ok v xs) (hlt : ∀ k, u.ownBlock = some k → k < W.heap.size) : d.R e w1 W.heap.size (fun k => ok k ∧ some k ≠ u.ownBlock) v xs := Kd.R_new' h hlt
theorem rL {α : Type} {d : Kd α} {e : Nat} {w : World} {base base' : Nat} {ok : Nat → Prop} {v : Value} {xs : List α} (h : d.R e w base ok v xs) (hb : base' ≤ base) : d.R e w base' ok v xs := Kd.R_lower h hb
theorem eA {w W : World} (h : Below w.heap.size w W) (o : Obj) : Below w.heap.size w (W.alloc o) := below_alloc h o
theorem eN {B : Nat} {w W : World} (h : Below B w W) (n : Nat) : Below B w (W.drewN n) := pw_below_drewN h n
theorem eD {base : Nat} {w W : World} (h : Below base w W) : Below base w W.drew := below_drew1 h
theorem eS {w W : World} {g j : Nat} {v : Value} (h : Below w.heap.size w W) (hg : w.heap.size ≤ g) : Below w.heap.size w (W.setCell ⟨g, j, none⟩ v) := below_set h hg
theorem rA {α : Type} {d : Kd α} {e : Nat} {w : World} {base : Nat} {ok : Nat → Prop} {v : Value} {xs : List α} (h : d.R e w base ok v xs) (o : Obj) : d.R e (w.alloc o) base ok v xs := Kd.R_alloc h o
theorem rN {α : Type} {d : Kd α} {e : Nat} {w : World} {base : Nat} {ok : Nat → Prop} {v : Value} {xs : List α} (h : d.R e w base ok v xs) (m : Nat) : d.R e (w.drewN m) base ok v xs := Kd.R_drewN h m
theorem rD {α : Type} {d : Kd α} {e : Nat} {w : World} {base : Nat} {ok : Nat → Prop} {v : Value} {xs : List α} (h : d.R e w base ok v xs) : d.R e w.drew base ok v xs := Kd.R_drew h
end Go.Proofs.YtjkjdlpmbpgjgaaW.PrintWords
