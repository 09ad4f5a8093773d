/- The pure statement of the law loop.example/g01316/laws.FnExactSureCalls, and how its arguments are opened. No conditions. -/
import Derived.Test.YthakmnjamdggeaaPFnExactSureCallsx10
import Derived.Test.YthakmnjamdggeaaGr
namespace Go.Proofs.Ythakmnjamdggeaa.PFnExactSureCalls
open Go.RowKit Go.ChangeShapes Go.Proofs.YthakmnjamdggeaaW.PrintWords Go.Proofs.Ythakmnjamdggeaa.Gr
set_option linter.unusedVariables false
set_option linter.unusedSimpArgs false
def ok26 (y : S26) : Prop := okInt y.f0 ∧ okInt y.f1 ∧ okInt y.f2 ∧ okInt y.f3
theorem opens26 {H : Type} {enc : TypeId × Value → H} {W : World} {base : Nat} {spare : Nat → Bool} {held : Bool} : Opens enc Try.prog W base spare held k26 ok26 26 := by
  intro n cs x h
  obtain ⟨xs, n', _, _, hlen, hxl, hf⟩ := DataW.trod_struct Try.underlying26 h
  have c3 : Try.prog.cellsOf 3 = 1 := by kernel_rfl
  have hs : cs.length = 4 := hlen.trans (by kernel_rfl)
  match xs, hxl with
  | [y0, y1, y2, y3], _ =>
    obtain ⟨v0, e0, o0⟩ := (Gr.opens_int Try.underlying3) _ _ _ (show DataW.trod enc Try.prog W base spare held n' 3 (List.take (Try.prog.cellsOf 3) (List.drop 0 cs)) = some y0 from hf 0 _ rfl)
    simp only [c3, List.drop_zero] at e0
    obtain ⟨v1, e1, o1⟩ := (Gr.opens_int Try.underlying3) _ _ _ (show DataW.trod enc Try.prog W base spare held n' 3 (List.take (Try.prog.cellsOf 3) (List.drop 1 cs)) = some y1 from hf 1 _ rfl)
    simp only [c3, List.drop_zero] at e1
    obtain ⟨v2, e2, o2⟩ := (Gr.opens_int Try.underlying3) _ _ _ (show DataW.trod enc Try.prog W base spare held n' 3 (List.take (Try.prog.cellsOf 3) (List.drop 2 cs)) = some y2 from hf 2 _ rfl)
    simp only [c3, List.drop_zero] at e2
    obtain ⟨v3, e3, o3⟩ := (Gr.opens_int Try.underlying3) _ _ _ (show DataW.trod enc Try.prog W base spare held n' 3 (List.take (Try.prog.cellsOf 3) (List.drop 3 cs)) = some y3 from hf 3 _ rfl)
    simp only [c3, List.drop_zero] at e3
    refine ⟨⟨v0, v1, v2, v3⟩, pair_K ?_ (pair_K ?_ (pair_K ?_ ?_)), o0, o1, o2, o3⟩
    · exact e0
    · try simp only [List.drop_drop]
      exact e1
    · try simp only [List.drop_drop]
      exact e2
    · simp only [List.drop_drop]
      rw [List.take_of_length_le (by simp [hs])] at e3
      exact e3
def ok39 (y : S39) : Prop := okInt y.f0 ∧ okInt y.f1 ∧ (fun l => ∀ y, y ∈ l → ok26 y) y.f2
theorem opens39 {H : Type} {enc : TypeId × Value → H} {W : World} {base : Nat} {spare : Nat → Bool} {held : Bool} : Opens enc Try.prog W base spare held k39 ok39 39 := by
  intro n cs x h
  obtain ⟨xs, n', _, _, hlen, hxl, hf⟩ := DataW.trod_struct Try.underlying39 h
  have c3 : Try.prog.cellsOf 3 = 1 := by kernel_rfl
  have c37 : Try.prog.cellsOf 37 = 1 := by kernel_rfl
  have hs : cs.length = 3 := hlen.trans (by kernel_rfl)
  match xs, hxl with
  | [y0, y1, y2], _ =>
    obtain ⟨v0, e0, o0⟩ := (Gr.opens_int Try.underlying3) _ _ _ (show DataW.trod enc Try.prog W base spare held n' 3 (List.take (Try.prog.cellsOf 3) (List.drop 0 cs)) = some y0 from hf 0 _ rfl)
    simp only [c3, List.drop_zero] at e0
    obtain ⟨v1, e1, o1⟩ := (Gr.opens_int Try.underlying3) _ _ _ (show DataW.trod enc Try.prog W base spare held n' 3 (List.take (Try.prog.cellsOf 3) (List.drop 1 cs)) = some y1 from hf 1 _ rfl)
    simp only [c3, List.drop_zero] at e1
    obtain ⟨v2, e2, o2⟩ := (Gr.opens_slice Try.underlying37 (by kernel_rfl) (opens26)) _ _ _ (show DataW.trod enc Try.prog W base spare held n' 37 (List.take (Try.prog.cellsOf 37) (List.drop 2 cs)) = some y2 from hf 2 _ rfl)
    simp only [c37, List.drop_zero] at e2
    refine ⟨⟨v0, v1, v2⟩, pair_K ?_ (pair_K ?_ ?_), o0, o1, o2⟩
    · exact e0
    · try simp only [List.drop_drop]
      exact e1
    · simp only [List.drop_drop]
      rw [List.take_of_length_le (by simp [hs])] at e2
      exact e2
/-- THE ONE PURE STATEMENT of laws_FnExactSureCalls. -/
def laws_FnExactSureCalls.Pure : Prop := ∀ (a0_0 : Int) (a0_1 : Int) (l0_2 : List (S26)), okInt a0_0 → okInt a0_1 → l0_2.length ≤ 9223372036854775807 → (∀ y, y ∈ l0_2 → ok26 y) → ∃ k, laws_FnExactSureCalls.f k a0_0 a0_1 l0_2 = some true
end Go.Proofs.Ythakmnjamdggeaa.PFnExactSureCalls
