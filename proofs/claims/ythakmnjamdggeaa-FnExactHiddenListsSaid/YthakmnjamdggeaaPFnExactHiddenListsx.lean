/- Printed by a program of this session (wip/pp) over the kit's print, for FnExactHiddenLists. No conditions beyond those that each theorem names. -/
import Derived.Test.YthakmnjamdggeaaPFnExactHiddenListsx0
import Derived.Test.YthakmnjamdggeaaPFnExactHiddenListsx1
import Derived.Test.YthakmnjamdggeaaPFnExactHiddenListsx2
import Derived.Test.YthakmnjamdggeaaPFnExactHiddenListsx3
import Derived.Test.YthakmnjamdggeaaPFnExactHiddenListsx4
import Derived.Test.YthakmnjamdggeaaPFnExactHiddenListsx5
import Derived.Test.YthakmnjamdggeaaPFnExactHiddenListsx6
namespace Go.Proofs.Ythakmnjamdggeaa.PFnExactHiddenLists
open Go.RowKit Go.Proofs.YthakmnjamdggeaaW.PrintWords Go.Proofs.YthakmnjamdggeaaW.PrintLast Go.Proofs.YthakmnjamdggeaaW.PrintMore
attribute [local go_sem] max2_int min2_int max_two min_two max_three min_three max_four min_four   -- for this text's walks alone
set_option linter.unusedVariables false
set_option linter.unusedSimpArgs false

end Go.Proofs.Ythakmnjamdggeaa.PFnExactHiddenLists
