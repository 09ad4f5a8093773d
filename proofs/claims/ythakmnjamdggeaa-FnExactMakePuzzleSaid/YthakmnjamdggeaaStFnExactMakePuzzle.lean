/- The pure statement of the law loop.example/g01316/laws.FnExactMakePuzzle, and how its arguments are opened. No conditions. -/
import Derived.Test.YthakmnjamdggeaaPFnExactMakePuzzlex11
import Derived.Test.YthakmnjamdggeaaGr
namespace Go.Proofs.Ythakmnjamdggeaa.PFnExactMakePuzzle
open Go.RowKit Go.ChangeShapes Go.Proofs.YthakmnjamdggeaaW.PrintWords Go.Proofs.Ythakmnjamdggeaa.Gr
set_option linter.unusedVariables false
set_option linter.unusedSimpArgs false
def ok76 (y : S76) : Prop := okInt y.f0 ∧ okInt y.f1
theorem opens76 {H : Type} {enc : TypeId × Value → H} {W : World} {base : Nat} {spare : Nat → Bool} {held : Bool} : Opens enc Try.prog W base spare held k76 ok76 76 := by
  intro n cs x h
  obtain ⟨xs, n', _, _, hlen, hxl, hf⟩ := DataW.trod_struct Try.underlying76 h
  have c3 : Try.prog.cellsOf 3 = 1 := by kernel_rfl
  have hs : cs.length = 2 := hlen.trans (by kernel_rfl)
  match xs, hxl with
  | [y0, y1], _ =>
    obtain ⟨v0, e0, o0⟩ := (Gr.opens_int Try.underlying3) _ _ _ (show DataW.trod enc Try.prog W base spare held n' 3 (List.take (Try.prog.cellsOf 3) (List.drop 0 cs)) = some y0 from hf 0 _ rfl)
    simp only [c3, List.drop_zero] at e0
    obtain ⟨v1, e1, o1⟩ := (Gr.opens_int Try.underlying3) _ _ _ (show DataW.trod enc Try.prog W base spare held n' 3 (List.take (Try.prog.cellsOf 3) (List.drop 1 cs)) = some y1 from hf 1 _ rfl)
    simp only [c3, List.drop_zero] at e1
    refine ⟨⟨v0, v1⟩, pair_K ?_ ?_, o0, o1⟩
    · exact e0
    · simp only [List.drop_drop]
      rw [List.take_of_length_le (by simp [hs])] at e1
      exact e1
/-- THE ONE PURE STATEMENT of laws_FnExactMakePuzzle. -/
def laws_FnExactMakePuzzle.Pure : Prop := ∀ (a0 : Int) (l1 : List (S76)) (a2 : Int) (a3 : Int), okInt a0 → l1.length ≤ 9223372036854775807 → (∀ y, y ∈ l1 → ok76 y) → okInt a2 → okInt a3 → ∃ k, laws_FnExactMakePuzzle.f k a0 l1 a2 a3 = some true
end Go.Proofs.Ythakmnjamdggeaa.PFnExactMakePuzzle
