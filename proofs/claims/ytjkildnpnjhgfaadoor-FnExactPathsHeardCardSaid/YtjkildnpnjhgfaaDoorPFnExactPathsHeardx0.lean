/- Printed by a program of this session (wip/pp) over the kit's print, for FnExactPathsHeard. No conditions beyond those that each theorem names. -/
import Derived.Test.YtjkildnpnjhgfaaDoorProg
import Derived.Below
import Derived.Deep.Draws
import Derived.Deep.AppendLies
import Derived.Maps.AppendAt
import Derived.OwnWalk
import Derived.Laws.BytesArg
import Derived.Laws.MakeOwn
import Derived.Laws.OwnMore
import Derived.Deep.OwnRows
import Derived.Tactics
import Derived.Lib.ConvBytes
import Derived.Laws.Slices
import Derived.WalkKit
import Derived.KernelRfl
import Derived.RowKit3
import Derived.Deep.LoopGhost
import Derived.Deep.QuietTactic
import Derived.BigQuiet
import Derived.WideLaws
import Derived.Deep.DeepCutAuto
import Derived.Deep.CutBlock
import Derived.Deep.RegionHeld3
import Derived.Laws.Rows
import Derived.Lib.AppendStr
import Derived.ArgAppend
import Derived.Laws.IdiomCopy
import Derived.OrdersHeld
import Derived.Laws.BitsLemmas
import Derived.RowKit
import Derived.Test.YtjkildnpnjhgfaaDoorWWords
import Derived.Test.YtjkildnpnjhgfaaDoorWLast
import Derived.Test.YtjkildnpnjhgfaaDoorWTab
import Derived.Test.YtjkildnpnjhgfaaDoorWFour
import Derived.Test.YtjkildnpnjhgfaaDoorWQPut
import Derived.Test.YtjkildnpnjhgfaaDoorWApart
import Derived.Test.YtjkildnpnjhgfaaDoorWArr
import Derived.Test.YtjkildnpnjhgfaaDoorWZeros
import Derived.Test.YtjkildnpnjhgfaaDoorWFoot
import Derived.Test.YtjkildnpnjhgfaaDoorWKept
import Derived.Test.YtjkildnpnjhgfaaDoorWShare
import Derived.Test.YtjkildnpnjhgfaaDoorWN
import Derived.Test.YtjkildnpnjhgfaaDoorWFootNe
import Derived.Test.YtjkildnpnjhgfaaDoorWAt
import Derived.Test.YtjkildnpnjhgfaaDoorWEqStruct
import Derived.Test.YtjkildnpnjhgfaaDoorWRepsOne
import Derived.Test.YtjkildnpnjhgfaaDoorWInv
import Derived.Test.YtjkildnpnjhgfaaDoorWInvWords
import Derived.Test.YtjkildnpnjhgfaaDoorWGuard
import Derived.Test.YtjkildnpnjhgfaaDoorWNEv
import Derived.Test.YtjkildnpnjhgfaaDoorWMore
import Derived.Test.YtjkildnpnjhgfaaDoorGv
import Derived.WalkSmall
import Derived.Test.YtjkildnpnjhgfaaDoorSh
import Derived.Shelf.Strings.SlTrimAscii
import Derived.Lib.SlTrimSet
import Derived.Laws.EntriesVeiled
namespace Go.Proofs.YtjkildnpnjhgfaaDoor.PFnExactPathsHeard
open Go.RowKit Go.Proofs.YtjkildnpnjhgfaaDoorW.PrintWords Go.Proofs.YtjkildnpnjhgfaaDoorW.PrintLast Go.Proofs.YtjkildnpnjhgfaaDoorW.PrintMore
attribute [local go_sem] max2_int min2_int max_two min_two max_three min_three max_four min_four   -- for this text's walks alone
set_option linter.unusedVariables false
set_option linter.unusedSimpArgs false



def errW : Option Int → Value
  | none => .nilIface
  | some c => .iface 0 (.int .i64 c)
theorem errW_none : errW none = .nilIface := rfl
theorem errW_some (c : Int) : errW (some c) = .iface 0 (.int .i64 c) := rfl

theorem info3 : (Tryd.prog.info? 3).map (fun i => (i.zero, i.size, i.bytes)) = some (some (.int .i64 0), 1, 8) := by kernel_rfl
theorem info4 : (Tryd.prog.info? 4).map (fun i => (i.zero, i.size, i.bytes)) = some (some (.bool false), 1, 1) := by kernel_rfl
-- the values' own types

end Go.Proofs.YtjkildnpnjhgfaaDoor.PFnExactPathsHeard
