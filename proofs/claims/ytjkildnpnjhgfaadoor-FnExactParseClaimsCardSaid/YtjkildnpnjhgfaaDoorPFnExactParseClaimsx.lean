/- Printed by a program of this session (wip/pp) over the kit's print, for FnExactParseClaims. No conditions beyond those that each theorem names. -/
import Derived.Test.YtjkildnpnjhgfaaDoorPFnExactParseClaimsx0
import Derived.Test.YtjkildnpnjhgfaaDoorPFnExactParseClaimsx1
import Derived.Test.YtjkildnpnjhgfaaDoorPFnExactParseClaimsx2
import Derived.Test.YtjkildnpnjhgfaaDoorPFnExactParseClaimsx3
import Derived.Test.YtjkildnpnjhgfaaDoorPFnExactParseClaimsx4
import Derived.Test.YtjkildnpnjhgfaaDoorPFnExactParseClaimsx5
namespace Go.Proofs.YtjkildnpnjhgfaaDoor.PFnExactParseClaims
open Go.RowKit Go.Proofs.YtjkildnpnjhgfaaDoorW.PrintWords Go.Proofs.YtjkildnpnjhgfaaDoorW.PrintLast Go.Proofs.YtjkildnpnjhgfaaDoorW.PrintMore
attribute [local go_sem] max2_int min2_int max_two min_two max_three min_three max_four min_four   -- for this text's walks alone
set_option linter.unusedVariables false
set_option linter.unusedSimpArgs false

end Go.Proofs.YtjkildnpnjhgfaaDoor.PFnExactParseClaims
