/- The pure statement of the law loop.example/g01316/laws.FnExactClaimGroups, and how its arguments are opened. No conditions. -/
import Derived.Test.YtgmgicmgobjjcaaPFnExactClaimGroupsx7
import Derived.Test.YtgmgicmgobjjcaaGr
namespace Go.Proofs.Ytgmgicmgobjjcaa.PFnExactClaimGroups
open Go.RowKit Go.ChangeShapes Go.Proofs.YtgmgicmgobjjcaaW.PrintWords Go.Proofs.Ytgmgicmgobjjcaa.Gr
set_option linter.unusedVariables false
set_option linter.unusedSimpArgs false
def ok40 (y : S40) : Prop := okInt y.f0 ∧ okInt y.f1 ∧ (fun _ => True) y.f2
theorem opens40 {H : Type} {enc : TypeId × Value → H} {W : World} {base : Nat} {spare : Nat → Bool} {held : Bool} : Opens enc Try.prog W base spare held k40 ok40 40 := by
  intro n cs x h
  obtain ⟨xs, n', _, _, hlen, hxl, hf⟩ := DataW.trod_struct Try.underlying40 h
  have c3 : Try.prog.cellsOf 3 = 1 := by kernel_rfl
  have c4 : Try.prog.cellsOf 4 = 1 := by kernel_rfl
  have hs : cs.length = 3 := hlen.trans (by kernel_rfl)
  match xs, hxl with
  | [y0, y1, y2], _ =>
    obtain ⟨v0, e0, o0⟩ := (Gr.opens_int Try.underlying3) _ _ _ (show DataW.trod enc Try.prog W base spare held n' 3 (List.take (Try.prog.cellsOf 3) (List.drop 0 cs)) = some y0 from hf 0 _ rfl)
    simp only [c3, List.drop_zero] at e0
    obtain ⟨v1, e1, o1⟩ := (Gr.opens_int Try.underlying3) _ _ _ (show DataW.trod enc Try.prog W base spare held n' 3 (List.take (Try.prog.cellsOf 3) (List.drop 1 cs)) = some y1 from hf 1 _ rfl)
    simp only [c3, List.drop_zero] at e1
    obtain ⟨v2, e2, o2⟩ := (Gr.opens_bool Try.underlying4) _ _ _ (show DataW.trod enc Try.prog W base spare held n' 4 (List.take (Try.prog.cellsOf 4) (List.drop 2 cs)) = some y2 from hf 2 _ rfl)
    simp only [c4, List.drop_zero] at e2
    refine ⟨⟨v0, v1, v2⟩, pair_K ?_ (pair_K ?_ ?_), o0, o1, o2⟩
    · exact e0
    · try simp only [List.drop_drop]
      exact e1
    · simp only [List.drop_drop]
      rw [List.take_of_length_le (by simp [hs])] at e2
      exact e2
/-- THE ONE PURE STATEMENT of laws_FnExactClaimGroups. -/
def laws_FnExactClaimGroups.Pure : Prop := ∀ (a0 : Int) (l1 : List (S40)), okInt a0 → l1.length ≤ 9223372036854775807 → (∀ y, y ∈ l1 → ok40 y) → ∃ k, laws_FnExactClaimGroups.f k a0 l1 = some true
end Go.Proofs.Ytgmgicmgobjjcaa.PFnExactClaimGroups
