/- The pure statement of the law loop.example/g01316/laws.FnExactPuzzleText, and how its arguments are opened. No conditions. -/
import Derived.Test.YtbpljefjopjogaaDoorPFnExactPuzzleTextx5
import Derived.Test.YtbpljefjopjogaaDoorGr
namespace Go.Proofs.YtbpljefjopjogaaDoor.PFnExactPuzzleText
open Go.RowKit Go.ChangeShapes Go.Proofs.YtbpljefjopjogaaDoorW.PrintWords Go.Proofs.YtbpljefjopjogaaDoor.Gr
set_option linter.unusedVariables false
set_option linter.unusedSimpArgs false
def ok45 (y : S45) : Prop := okInt y.f0 ∧ okInt y.f1 ∧ okInt y.f2 ∧ okInt y.f3
theorem opens45 {H : Type} {enc : TypeId × Value → H} {W : World} {base : Nat} {spare : Nat → Bool} {held : Bool} : Opens enc Tryd.prog W base spare held k45 ok45 45 := by
  intro n cs x h
  obtain ⟨xs, n', _, _, hlen, hxl, hf⟩ := DataW.trod_struct Tryd.underlying45 h
  have c3 : Tryd.prog.cellsOf 3 = 1 := by kernel_rfl
  have hs : cs.length = 4 := hlen.trans (by kernel_rfl)
  match xs, hxl with
  | [y0, y1, y2, y3], _ =>
    obtain ⟨v0, e0, o0⟩ := (Gr.opens_int Tryd.underlying3) _ _ _ (show DataW.trod enc Tryd.prog W base spare held n' 3 (List.take (Tryd.prog.cellsOf 3) (List.drop 0 cs)) = some y0 from hf 0 _ rfl)
    simp only [c3, List.drop_zero] at e0
    obtain ⟨v1, e1, o1⟩ := (Gr.opens_int Tryd.underlying3) _ _ _ (show DataW.trod enc Tryd.prog W base spare held n' 3 (List.take (Tryd.prog.cellsOf 3) (List.drop 1 cs)) = some y1 from hf 1 _ rfl)
    simp only [c3, List.drop_zero] at e1
    obtain ⟨v2, e2, o2⟩ := (Gr.opens_int Tryd.underlying3) _ _ _ (show DataW.trod enc Tryd.prog W base spare held n' 3 (List.take (Tryd.prog.cellsOf 3) (List.drop 2 cs)) = some y2 from hf 2 _ rfl)
    simp only [c3, List.drop_zero] at e2
    obtain ⟨v3, e3, o3⟩ := (Gr.opens_int Tryd.underlying3) _ _ _ (show DataW.trod enc Tryd.prog W base spare held n' 3 (List.take (Tryd.prog.cellsOf 3) (List.drop 3 cs)) = some y3 from hf 3 _ rfl)
    simp only [c3, List.drop_zero] at e3
    refine ⟨⟨v0, v1, v2, v3⟩, pair_K ?_ (pair_K ?_ (pair_K ?_ ?_)), o0, o1, o2, o3⟩
    · exact e0
    · try simp only [List.drop_drop]
      exact e1
    · try simp only [List.drop_drop]
      exact e2
    · simp only [List.drop_drop]
      rw [List.take_of_length_le (by simp [hs])] at e3
      exact e3
def ok24 (y : S24) : Prop := okInt y.f0 ∧ okInt y.f1 ∧ (fun l => ∀ y, y ∈ l → ok45 y) y.f2
theorem opens24 {H : Type} {enc : TypeId × Value → H} {W : World} {base : Nat} {spare : Nat → Bool} {held : Bool} : Opens enc Tryd.prog W base spare held k24 ok24 24 := by
  intro n cs x h
  obtain ⟨xs, n', _, _, hlen, hxl, hf⟩ := DataW.trod_struct Tryd.underlying24 h
  have c3 : Tryd.prog.cellsOf 3 = 1 := by kernel_rfl
  have c22 : Tryd.prog.cellsOf 22 = 1 := by kernel_rfl
  have hs : cs.length = 3 := hlen.trans (by kernel_rfl)
  match xs, hxl with
  | [y0, y1, y2], _ =>
    obtain ⟨v0, e0, o0⟩ := (Gr.opens_int Tryd.underlying3) _ _ _ (show DataW.trod enc Tryd.prog W base spare held n' 3 (List.take (Tryd.prog.cellsOf 3) (List.drop 0 cs)) = some y0 from hf 0 _ rfl)
    simp only [c3, List.drop_zero] at e0
    obtain ⟨v1, e1, o1⟩ := (Gr.opens_int Tryd.underlying3) _ _ _ (show DataW.trod enc Tryd.prog W base spare held n' 3 (List.take (Tryd.prog.cellsOf 3) (List.drop 1 cs)) = some y1 from hf 1 _ rfl)
    simp only [c3, List.drop_zero] at e1
    obtain ⟨v2, e2, o2⟩ := (Gr.opens_slice Tryd.underlying22 (by kernel_rfl) (opens45)) _ _ _ (show DataW.trod enc Tryd.prog W base spare held n' 22 (List.take (Tryd.prog.cellsOf 22) (List.drop 2 cs)) = some y2 from hf 2 _ rfl)
    simp only [c22, List.drop_zero] at e2
    refine ⟨⟨v0, v1, v2⟩, pair_K ?_ (pair_K ?_ ?_), o0, o1, o2⟩
    · exact e0
    · try simp only [List.drop_drop]
      exact e1
    · simp only [List.drop_drop]
      rw [List.take_of_length_le (by simp [hs])] at e2
      exact e2
/-- THE ONE PURE STATEMENT of laws_FnExactPuzzleText. -/
def laws_FnExactPuzzleText.Pure : Prop := ∀ (a0_0 : Int) (a0_1 : Int) (l0_2 : List (S45)), okInt a0_0 → okInt a0_1 → l0_2.length ≤ 9223372036854775807 → (∀ y, y ∈ l0_2 → ok45 y) → ∃ k, laws_FnExactPuzzleText.f k a0_0 a0_1 l0_2 = some true
end Go.Proofs.YtbpljefjopjogaaDoor.PFnExactPuzzleText
