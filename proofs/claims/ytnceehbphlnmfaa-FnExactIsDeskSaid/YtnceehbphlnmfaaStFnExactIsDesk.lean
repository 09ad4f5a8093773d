/- The pure statement of the law loop.example/g01316/laws.FnExactIsDesk, and how its arguments are opened. No conditions. -/
import Derived.Test.YtnceehbphlnmfaaPFnExactIsDeskx2
import Derived.Test.YtnceehbphlnmfaaGr
namespace Go.Proofs.Ytnceehbphlnmfaa.PFnExactIsDesk
open Go.RowKit Go.ChangeShapes Go.Proofs.YtnceehbphlnmfaaW.PrintWords Go.Proofs.Ytnceehbphlnmfaa.Gr
set_option linter.unusedVariables false
set_option linter.unusedSimpArgs false
def ok109 (y : S109) : Prop := okInt y.f0 ∧ okInt y.f1
theorem opens109 {H : Type} {enc : TypeId × Value → H} {W : World} {base : Nat} {spare : Nat → Bool} {held : Bool} : Opens enc Try.prog W base spare held k109 ok109 109 := by
  intro n cs x h
  obtain ⟨xs, n', _, _, hlen, hxl, hf⟩ := DataW.trod_struct Try.underlying109 h
  have c3 : Try.prog.cellsOf 3 = 1 := by kernel_rfl
  have hs : cs.length = 2 := hlen.trans (by kernel_rfl)
  match xs, hxl with
  | [y0, y1], _ =>
    obtain ⟨v0, e0, o0⟩ := (Gr.opens_int Try.underlying3) _ _ _ (show DataW.trod enc Try.prog W base spare held n' 3 (List.take (Try.prog.cellsOf 3) (List.drop 0 cs)) = some y0 from hf 0 _ rfl)
    simp only [c3, List.drop_zero] at e0
    obtain ⟨v1, e1, o1⟩ := (Gr.opens_int Try.underlying3) _ _ _ (show DataW.trod enc Try.prog W base spare held n' 3 (List.take (Try.prog.cellsOf 3) (List.drop 1 cs)) = some y1 from hf 1 _ rfl)
    simp only [c3, List.drop_zero] at e1
    refine ⟨⟨v0, v1⟩, pair_K ?_ ?_, o0, o1⟩
    · exact e0
    · simp only [List.drop_drop]
      rw [List.take_of_length_le (by simp [hs])] at e1
      exact e1
def ok37 (y : S37) : Prop := okInt y.f0 ∧ (fun l => ∀ y, y ∈ l → ok109 y) y.f1
theorem opens37 {H : Type} {enc : TypeId × Value → H} {W : World} {base : Nat} {spare : Nat → Bool} {held : Bool} : Opens enc Try.prog W base spare held k37 ok37 37 := by
  intro n cs x h
  obtain ⟨xs, n', _, _, hlen, hxl, hf⟩ := DataW.trod_struct Try.underlying37 h
  have c3 : Try.prog.cellsOf 3 = 1 := by kernel_rfl
  have c35 : Try.prog.cellsOf 35 = 1 := by kernel_rfl
  have hs : cs.length = 2 := hlen.trans (by kernel_rfl)
  match xs, hxl with
  | [y0, y1], _ =>
    obtain ⟨v0, e0, o0⟩ := (Gr.opens_int Try.underlying3) _ _ _ (show DataW.trod enc Try.prog W base spare held n' 3 (List.take (Try.prog.cellsOf 3) (List.drop 0 cs)) = some y0 from hf 0 _ rfl)
    simp only [c3, List.drop_zero] at e0
    obtain ⟨v1, e1, o1⟩ := (Gr.opens_slice Try.underlying35 (by kernel_rfl) (opens109)) _ _ _ (show DataW.trod enc Try.prog W base spare held n' 35 (List.take (Try.prog.cellsOf 35) (List.drop 1 cs)) = some y1 from hf 1 _ rfl)
    simp only [c35, List.drop_zero] at e1
    refine ⟨⟨v0, v1⟩, pair_K ?_ ?_, o0, o1⟩
    · exact e0
    · simp only [List.drop_drop]
      rw [List.take_of_length_le (by simp [hs])] at e1
      exact e1
/-- THE ONE PURE STATEMENT of laws_FnExactIsDesk. -/
def laws_FnExactIsDesk.Pure : Prop := ∀ (a0_0 : Int) (l0_1 : List (S109)), okInt a0_0 → l0_1.length ≤ 9223372036854775807 → (∀ y, y ∈ l0_1 → ok109 y) → ∃ k, laws_FnExactIsDesk.f k a0_0 l0_1 = some true
end Go.Proofs.Ytnceehbphlnmfaa.PFnExactIsDesk
