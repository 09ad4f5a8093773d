/- Printed by a program of this session (wip/pp) over the kit's print, for FnExactPathsHeard. No conditions beyond those that each theorem names. -/
import Derived.Test.YtjkildnpnjhgfaaDoorPFnExactPathsHeardx0
import Derived.Test.YtjkildnpnjhgfaaDoorPFnExactPathsHeardx1
import Derived.Test.YtjkildnpnjhgfaaDoorPFnExactPathsHeardx2
import Derived.Test.YtjkildnpnjhgfaaDoorPFnExactPathsHeardx3
namespace Go.Proofs.YtjkildnpnjhgfaaDoor.PFnExactPathsHeard
open Go.RowKit Go.Proofs.YtjkildnpnjhgfaaDoorW.PrintWords Go.Proofs.YtjkildnpnjhgfaaDoorW.PrintLast Go.Proofs.YtjkildnpnjhgfaaDoorW.PrintMore
attribute [local go_sem] max2_int min2_int max_two min_two max_three min_three max_four min_four   -- for this text's walks alone
set_option linter.unusedVariables false
set_option linter.unusedSimpArgs false

end Go.Proofs.YtjkildnpnjhgfaaDoor.PFnExactPathsHeard
