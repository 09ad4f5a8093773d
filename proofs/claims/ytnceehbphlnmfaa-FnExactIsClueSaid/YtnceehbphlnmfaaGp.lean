/- Plain words on options, numbers and lists for the pure statements. No program is named here. -/
import Derived.RowKit
import Derived.Test.YtnceehbphlnmfaaWWords
import Derived.Test.YtnceehbphlnmfaaWMore
namespace Go.Proofs.Ytnceehbphlnmfaa.Gp
open Go.RowKit Go.Proofs.YtnceehbphlnmfaaW.PrintWords
set_option linter.unusedVariables false

/-- It is told. -/
def Tot {α : Type} (o : Option α) : Prop := ∃ r, o = some r
theorem Tot.some {α : Type} (x : α) : Tot (some x) := ⟨x, rfl⟩
theorem Tot.ite {α : Type} {c : Prop} [Decidable c] {a b : Option α} (ha : Tot a) (hb : Tot b) : Tot (if c then a else b) := by
  by_cases h : c
  · rw [if_pos h]; exact ha
  · rw [if_neg h]; exact hb
theorem Tot.bind {α β : Type} {o : Option α} {f : α → Option β} (ho : Tot o) (hf : ∀ x, Tot (f x)) : Tot (o.bind f) := by
  obtain ⟨r, rfl⟩ := ho
  exact hf r
end Go.Proofs.Ytnceehbphlnmfaa.Gp
