/- The law FnExactIsClue in plain Lean: the program's IsClue and the reference's are one function, so the law returns true at every input. No conditions. -/
import Derived.Test.YtnceehbphlnmfaaStFnExactIsClue
namespace Go.Proofs.Ytnceehbphlnmfaa.Pure
open Go.RowKit Go.Proofs.Ytnceehbphlnmfaa.PFnExactIsClue Go.Proofs.YtnceehbphlnmfaaW.PrintWords Go.Proofs.YtnceehbphlnmfaaW.PrintLast Go.Proofs.YtnceehbphlnmfaaW.PrintMore Go.Proofs.Ytnceehbphlnmfaa.Gr
set_option linter.unusedVariables false
set_option linter.unusedSimpArgs false

theorem l1In_eq (a b c : Int) : spec_l1In.f a b c = some (decide (b ≤ a ∧ a ≤ c)) := by
  unfold spec_l1In.f
  by_cases h : b ≤ a <;> simp [h]
theorem within_eq (a b c : Int) : impl_within.f a b c = some (decide (b ≤ a ∧ a ≤ c)) := by
  unfold impl_within.f
  by_cases h : b ≤ a <;> simp [h]
theorem isBelow_eq (a n : Int) : impl_isBelow.f a n = some (decide (0 ≤ a ∧ a < n)) := by
  unfold impl_isBelow.f
  by_cases h : 0 ≤ a <;> simp [h]
theorem same (a b k x y z : Int) : impl_IsClue.f a b k x y z = spec_IsClue.f a b k x y z := by
  unfold impl_IsClue.f spec_IsClue.f impl_areHidden.f spec_pzSize.f spec_pzClue.f
  simp only [l1In_eq, within_eq, isBelow_eq, Option.bind_some]
  by_cases ha : 2 ≤ a ∧ a ≤ 4
  · by_cases hb : 0 ≤ b ∧ b ≤ 3
    · have e1 : wrap64 (a - 1) = a - 1 := by unfold wrap64; omega
      have e2 : wrap64 (b - 1) = b - 1 := by unfold wrap64; omega
      have q : ∀ u v : Int, (u ≤ v - 1) = (u < v) := fun u v => propext ⟨fun h => by omega, fun h => by omega⟩
      simp only [ha, hb, e1, e2, q, and_self, decide_true, if_true]
      by_cases h0 : 0 ≤ x ∧ x < a <;> by_cases h1 : 0 ≤ y ∧ y < a <;> by_cases h2 : 0 ≤ x ∧ x < b <;> simp [h0, h1, h2]
    · simp [ha, hb]
  · simp [ha]
theorem FnExactIsClue : laws_FnExactIsClue.Pure := by
  intro a b k x y z _ _ _ _ _ _
  unfold laws_FnExactIsClue.f laws_toClue.f
  simp only [Option.bind_some]
  rw [same]
  have : Gp.Tot (spec_IsClue.f a b k x y z) := by
    unfold spec_IsClue.f spec_pzSize.f spec_pzClue.f
    simp only [l1In_eq, Option.bind_some]
    repeat' first
      | exact Gp.Tot.some _
      | refine Gp.Tot.ite ?_ ?_
      | refine Gp.Tot.bind ?_ fun _ => ?_
  obtain ⟨r, hr⟩ := this
  rw [hr]
  simp

end Go.Proofs.Ytnceehbphlnmfaa.Pure
