/- FirstDesk of the program and of the reference are the same desk, in memory of its own. No conditions. -/
import Derived.Test.YtnceehbphlnmfaaPFnExactFirstDeskx2
namespace Go.Proofs.Ytnceehbphlnmfaa.Pure
open Go.RowKit Go.Proofs.Ytnceehbphlnmfaa.PFnExactFirstDesk Go.Proofs.YtnceehbphlnmfaaW.PrintWords Go.Proofs.YtnceehbphlnmfaaW.PrintLast

/-- YOURS: ∃ k, laws_FnExactFirstDesk.f k  = some true
What it reaches (each with k first where it has rounds; `.mono`: more rounds tell the same; `.l0`, ..: its loops, with `.mono_l`): spec_FirstDesk.f, impl_FirstDesk.f, laws_eqCall.f, laws_eqCallS.f, laws_eqDesk.f, laws_markCallS.f, laws_markDesk.f, laws_heldCallS.f, laws_heldDesk.f, laws_FnExactFirstDesk.f -/
theorem FnExactFirstDesk : laws_FnExactFirstDesk.Pure := by
  exact ⟨40, by decide +kernel⟩

end Go.Proofs.Ytnceehbphlnmfaa.Pure
