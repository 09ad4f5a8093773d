/- Printed by a program of this session (wip/pp) over the kit's print, for FnNewsDelayed. No conditions beyond those that each theorem names. -/
import Derived.Test.YtjkjdlpmbpgjgaaPFnNewsDelayedx0
import Derived.Test.YtjkjdlpmbpgjgaaPFnNewsDelayedx1
import Derived.Test.YtjkjdlpmbpgjgaaPFnNewsDelayedx2
import Derived.Test.YtjkjdlpmbpgjgaaPFnNewsDelayedx3
import Derived.Test.YtjkjdlpmbpgjgaaPFnNewsDelayedx4
import Derived.Test.YtjkjdlpmbpgjgaaPFnNewsDelayedx5
import Derived.Test.YtjkjdlpmbpgjgaaPFnNewsDelayedx6
import Derived.Test.YtjkjdlpmbpgjgaaPFnNewsDelayedx7
namespace Go.Proofs.Ytjkjdlpmbpgjgaa.PFnNewsDelayed
open Go.RowKit Go.Proofs.YtjkjdlpmbpgjgaaW.PrintWords Go.Proofs.YtjkjdlpmbpgjgaaW.PrintLast Go.Proofs.YtjkjdlpmbpgjgaaW.PrintMore
attribute [local go_sem] max2_int min2_int max_two min_two max_three min_three max_four min_four   -- for this text's walks alone
set_option linter.unusedVariables false
set_option linter.unusedSimpArgs false

end Go.Proofs.Ytjkjdlpmbpgjgaa.PFnNewsDelayed
