/- Words for calls of function values. No program is named here. -/
import Derived.Test.YtidinhkaclaanaaWWords
import Derived.Test.YtidinhkaclaanaaWLast
import Derived.Test.YtidinhkaclaanaaWMore
namespace Go.Proofs.YtidinhkaclaanaaW.PrintWords
open Go.RowKit Go.Proofs.YtidinhkaclaanaaW.PrintLast
set_option linter.unusedVariables false

section
variable {P : Program} {ops : Array Oper} {Q : Exit → Act → World → Prop}
/-- A call of a function value. -/
theorem goesV_ {rest : List Oper} {oi : Oper} {a : Act} {w : World} (N : Option Tmp) (hd : oi.dst = N) (hg : oi.guard = none) {f : FuncId} {fn : Func} {x : Operand} {as : Array Operand} {ts : Array TypeId} {first cap : Array Value} (hf : P.funcs[f]? = some fn) (hname : (fn.name == "runtime.NumGoroutine") = false) (hb : fn.body.isSome = true) (args : Array Value)
    (hop : oi.op = .call { callee := .value x, args := as, argTypes := ts }) (hx : a.eval x = .func (.func f) first cap) (hargs : (first ++ as.map a.eval) ++ cap = args)
    (h : Calls P f args w fun e w' => ∃ v, e = .returned v ∧ wpList P ops Q rest (a.put N v) w') : wpList P ops Q (oi :: rest) a w := by
  refine wpList_plain hg fun K hK => ?_
  have he := enters_ hf hname hb args w
  have hrun : (execOp a.eval oi).run P w = .ok (.enter f args) w := by
    unfold execOp
    simp [hop, resolve, hx, Deferred.ofValue, invoke, hargs, he]
  unfold Oper.wp
  rw [hrun, Oper.upon_enter]
  refine h.mono fun e w'' hh => ?_
  obtain ⟨v, rfl, hk⟩ := hh
  subst hd
  exact hK _ _ hk
end

/-- What a predicate's function value owes at the elements of a list, in all later worlds. -/
def Owes {α : Type} (P : Program) (fn : FuncId) (enc : α → Value) (cap : Array Value) (p : α → Bool) (l : List α) (w : World) : Prop :=
  ∀ x, x ∈ l → ∀ W, Below w.heap.size w W → Calls P fn (#[enc x] ++ cap) W fun e W' => e = .returned (.bool (p x)) ∧ Below W.heap.size W W'

theorem take_any_snoc {α : Type} (p : α → Bool) (l : List α) (k : Nat) (h : k < l.length) (z : α) (ha : (l.take k).any p = false) (hp : p (l.getD k z) = false) : (l.take (k + 1)).any p = false := by
  rw [List.take_succ_eq_append_getElem h, List.any_append, ha]
  simpa [List.getD_eq_getElem?_getD, List.getElem?_eq_getElem h] using hp
theorem any_of_at {α : Type} (p : α → Bool) (l : List α) (k : Nat) (h : k < l.length) (z : α) (hp : p (l.getD k z) = true) : l.any p = true := by
  rw [List.getD_eq_getElem?_getD, List.getElem?_eq_getElem h] at hp
  exact List.any_eq_true.2 ⟨l[k], List.getElem_mem h, hp⟩
theorem mem_getD {α : Type} (l : List α) (k : Nat) (h : k < l.length) (z : α) : l.getD k z ∈ l := by
  rw [List.getD_eq_getElem?_getD, List.getElem?_eq_getElem h]
  exact List.getElem_mem h
end Go.Proofs.YtidinhkaclaanaaW.PrintWords
