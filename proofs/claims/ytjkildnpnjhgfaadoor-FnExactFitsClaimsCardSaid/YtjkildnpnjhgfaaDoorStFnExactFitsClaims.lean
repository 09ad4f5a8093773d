/- The pure statement of the law loop.example/g01316/laws.FnExactFitsClaims, and how its arguments are opened. No conditions. -/
import Derived.Test.YtjkildnpnjhgfaaDoorPFnExactFitsClaimsx3
import Derived.Test.YtjkildnpnjhgfaaDoorGr
namespace Go.Proofs.YtjkildnpnjhgfaaDoor.PFnExactFitsClaims
open Go.RowKit Go.ChangeShapes Go.Proofs.YtjkildnpnjhgfaaDoorW.PrintWords Go.Proofs.YtjkildnpnjhgfaaDoor.Gr
set_option linter.unusedVariables false
set_option linter.unusedSimpArgs false
def ok58 (y : S58) : Prop := okInt y.f0 ∧ okInt y.f1 ∧ (fun _ => True) y.f2
theorem opens58 {H : Type} {enc : TypeId × Value → H} {W : World} {base : Nat} {spare : Nat → Bool} {held : Bool} : Opens enc Tryd.prog W base spare held k58 ok58 58 := by
  intro n cs x h
  obtain ⟨xs, n', _, _, hlen, hxl, hf⟩ := DataW.trod_struct Tryd.underlying58 h
  have c3 : Tryd.prog.cellsOf 3 = 1 := by kernel_rfl
  have c4 : Tryd.prog.cellsOf 4 = 1 := by kernel_rfl
  have hs : cs.length = 3 := hlen.trans (by kernel_rfl)
  match xs, hxl with
  | [y0, y1, y2], _ =>
    obtain ⟨v0, e0, o0⟩ := (Gr.opens_int Tryd.underlying3) _ _ _ (show DataW.trod enc Tryd.prog W base spare held n' 3 (List.take (Tryd.prog.cellsOf 3) (List.drop 0 cs)) = some y0 from hf 0 _ rfl)
    simp only [c3, List.drop_zero] at e0
    obtain ⟨v1, e1, o1⟩ := (Gr.opens_int Tryd.underlying3) _ _ _ (show DataW.trod enc Tryd.prog W base spare held n' 3 (List.take (Tryd.prog.cellsOf 3) (List.drop 1 cs)) = some y1 from hf 1 _ rfl)
    simp only [c3, List.drop_zero] at e1
    obtain ⟨v2, e2, o2⟩ := (Gr.opens_bool Tryd.underlying4) _ _ _ (show DataW.trod enc Tryd.prog W base spare held n' 4 (List.take (Tryd.prog.cellsOf 4) (List.drop 2 cs)) = some y2 from hf 2 _ rfl)
    simp only [c4, List.drop_zero] at e2
    refine ⟨⟨v0, v1, v2⟩, pair_K ?_ (pair_K ?_ ?_), o0, o1, o2⟩
    · exact e0
    · try simp only [List.drop_drop]
      exact e1
    · simp only [List.drop_drop]
      rw [List.take_of_length_le (by simp [hs])] at e2
      exact e2
/-- THE ONE PURE STATEMENT of laws_FnExactFitsClaims. -/
def laws_FnExactFitsClaims.Pure : Prop := ∀ (a0 : Int) (l1 : List (S58)) (a2 : ByteArray), okInt a0 → l1.length ≤ 9223372036854775807 → (∀ y, y ∈ l1 → ok58 y) → a2.size ≤ 140737488351232 → ∃ k, laws_FnExactFitsClaims.f k a0 l1 a2 = some true
end Go.Proofs.YtjkildnpnjhgfaaDoor.PFnExactFitsClaims
