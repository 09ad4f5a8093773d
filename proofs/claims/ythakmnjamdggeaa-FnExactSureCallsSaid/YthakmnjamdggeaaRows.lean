/-
  No cell of these rows narrows 'for every input' (looked for: loops, veiled, ifaces, maps, wideKeys, modest, calm, conditions, laid).
  DERIVED. THE GIVEN ROWS OF THIS SEAT. 9 by the template 'for every input the law returns true; each argument reads behind the call as it read before'; 0 by the template 'total and deterministic' (their statements: YthakmnjamdggeaaTotals.lean).
  GIVEN WITH THE SEED: the statements are not yours to turn. If you find one false, say at which input.
  Laid BY PROGRAM, IN A SANDBOX (cutbox-rows.mjs): the forced cells as the released guide's own fill.sh prints them over the translation 53c7b19a2b14b682… (all of the seat's roots in one cut). By AI agents, Wed Nov 11 2026. No macro, syntax, notation, axiom, sorry.
-/
import Derived.Test.YthakmnjamdggeaaChecked
import GoSem.Claim
import GoSem.ClaimJoined
import GoSem.ClaimMapViews
import Derived.JoinedTies
import Derived.KernelRfl
namespace Go.Proofs.Ythakmnjamdggeaa
/- THE CELL 'sum', in the pinned program and in every row, IS THE sha256 OF THE DUMP (.gsa) THAT YthakmnjamdggeaaProg.lean LOADS. Nothing in Lean hashes anything: it is a label: what it is worth is what the hold of that sum in a sandbox is worth. -/
noncomputable def Try.pinned : Pinned := { name := "ythakmnjamdggeaa", sum := "53c7b19a2b14b682632d2f7c25c6634be8cc9b5efa37e86d3b9306ff384fbe69", checked := Try.checked }
namespace Rows
def none {H : Type} : Left H := { results := [], args := [] }

/-- 'laws.FnExactHiddenLists': WHATEVER THE INPUT: true; the input reads as it did. -/
def fnExactHiddenListsSpec : ChangeSpec := { name := "fnExactHiddenLists", fn := fun _ => fun
  | [d1, d2] => { results := [.lit (.bool true)], args := [d1, d2] }
  | _ => none }
def fnExactHiddenListsRow : OpenClaim := { program := "ythakmnjamdggeaa", sum := "53c7b19a2b14b682632d2f7c25c6634be8cc9b5efa37e86d3b9306ff384fbe69", func := "loop.example/g01316/laws.FnExactHiddenLists", spec := "fnExactHiddenLists", unfollowed := true, recurses := true, apart := false }
def FnExactHiddenListsSaid : Prop := fnExactHiddenListsRow.holds Try.pinned (OpenSpec.ofChange fnExactHiddenListsSpec)

/-- ITS FALSE NEIGHBOUR: 'it returns false'. Refute it at one input. -/
def fnExactHiddenListsWrong : ChangeSpec := { name := "fnExactHiddenLists", fn := fun _ => fun
  | [d1, d2] => { results := [.lit (.bool false)], args := [d1, d2] }
  | _ => none }
def FnExactHiddenListsWrongFalsely : Prop := fnExactHiddenListsRow.holds Try.pinned (OpenSpec.ofChange fnExactHiddenListsWrong)

/-- 'laws.FnExactDoesFit': WHATEVER THE INPUT: true; the input reads as it did. -/
def fnExactDoesFitSpec : ChangeSpec := { name := "fnExactDoesFit", fn := fun _ => fun
  | [d1, d2, d3] => { results := [.lit (.bool true)], args := [d1, d2, d3] }
  | _ => none }
def fnExactDoesFitRow : OpenClaim := { program := "ythakmnjamdggeaa", sum := "53c7b19a2b14b682632d2f7c25c6634be8cc9b5efa37e86d3b9306ff384fbe69", func := "loop.example/g01316/laws.FnExactDoesFit", spec := "fnExactDoesFit", unfollowed := true, recurses := true, apart := false }
def FnExactDoesFitSaid : Prop := fnExactDoesFitRow.holds Try.pinned (OpenSpec.ofChange fnExactDoesFitSpec)

/-- ITS FALSE NEIGHBOUR: 'it returns false'. Refute it at one input. -/
def fnExactDoesFitWrong : ChangeSpec := { name := "fnExactDoesFit", fn := fun _ => fun
  | [d1, d2, d3] => { results := [.lit (.bool false)], args := [d1, d2, d3] }
  | _ => none }
def FnExactDoesFitWrongFalsely : Prop := fnExactDoesFitRow.holds Try.pinned (OpenSpec.ofChange fnExactDoesFitWrong)

/-- 'laws.FnExactCountSolutions': WHATEVER THE INPUT: true; the input reads as it did. -/
def fnExactCountSolutionsSpec : ChangeSpec := { name := "fnExactCountSolutions", fn := fun _ => fun
  | [d] => { results := [.lit (.bool true)], args := [d] }
  | _ => none }
def fnExactCountSolutionsRow : OpenClaim := { program := "ythakmnjamdggeaa", sum := "53c7b19a2b14b682632d2f7c25c6634be8cc9b5efa37e86d3b9306ff384fbe69", func := "loop.example/g01316/laws.FnExactCountSolutions", spec := "fnExactCountSolutions", unfollowed := true, recurses := true, apart := false }
def FnExactCountSolutionsSaid : Prop := fnExactCountSolutionsRow.holds Try.pinned (OpenSpec.ofChange fnExactCountSolutionsSpec)

/-- ITS FALSE NEIGHBOUR: 'it returns false'. Refute it at one input. -/
def fnExactCountSolutionsWrong : ChangeSpec := { name := "fnExactCountSolutions", fn := fun _ => fun
  | [d] => { results := [.lit (.bool false)], args := [d] }
  | _ => none }
def FnExactCountSolutionsWrongFalsely : Prop := fnExactCountSolutionsRow.holds Try.pinned (OpenSpec.ofChange fnExactCountSolutionsWrong)

/-- 'laws.FnExactIsSolved': WHATEVER THE INPUT: true; the input reads as it did. -/
def fnExactIsSolvedSpec : ChangeSpec := { name := "fnExactIsSolved", fn := fun _ => fun
  | [d] => { results := [.lit (.bool true)], args := [d] }
  | _ => none }
def fnExactIsSolvedRow : OpenClaim := { program := "ythakmnjamdggeaa", sum := "53c7b19a2b14b682632d2f7c25c6634be8cc9b5efa37e86d3b9306ff384fbe69", func := "loop.example/g01316/laws.FnExactIsSolved", spec := "fnExactIsSolved", unfollowed := true, recurses := true, apart := false }
def FnExactIsSolvedSaid : Prop := fnExactIsSolvedRow.holds Try.pinned (OpenSpec.ofChange fnExactIsSolvedSpec)

/-- ITS FALSE NEIGHBOUR: 'it returns false'. Refute it at one input. -/
def fnExactIsSolvedWrong : ChangeSpec := { name := "fnExactIsSolved", fn := fun _ => fun
  | [d] => { results := [.lit (.bool false)], args := [d] }
  | _ => none }
def FnExactIsSolvedWrongFalsely : Prop := fnExactIsSolvedRow.holds Try.pinned (OpenSpec.ofChange fnExactIsSolvedWrong)

/-- 'laws.FnExactSolutions': WHATEVER THE INPUT: true; the input reads as it did. -/
def fnExactSolutionsSpec : ChangeSpec := { name := "fnExactSolutions", fn := fun _ => fun
  | [d] => { results := [.lit (.bool true)], args := [d] }
  | _ => none }
def fnExactSolutionsRow : OpenClaim := { program := "ythakmnjamdggeaa", sum := "53c7b19a2b14b682632d2f7c25c6634be8cc9b5efa37e86d3b9306ff384fbe69", func := "loop.example/g01316/laws.FnExactSolutions", spec := "fnExactSolutions", unfollowed := true, recurses := true, apart := false }
def FnExactSolutionsSaid : Prop := fnExactSolutionsRow.holds Try.pinned (OpenSpec.ofChange fnExactSolutionsSpec)

/-- ITS FALSE NEIGHBOUR: 'it returns false'. Refute it at one input. -/
def fnExactSolutionsWrong : ChangeSpec := { name := "fnExactSolutions", fn := fun _ => fun
  | [d] => { results := [.lit (.bool false)], args := [d] }
  | _ => none }
def FnExactSolutionsWrongFalsely : Prop := fnExactSolutionsRow.holds Try.pinned (OpenSpec.ofChange fnExactSolutionsWrong)

/-- 'laws.FnExactFirstSolution': WHATEVER THE INPUT: true; the input reads as it did. -/
def fnExactFirstSolutionSpec : ChangeSpec := { name := "fnExactFirstSolution", fn := fun _ => fun
  | [d] => { results := [.lit (.bool true)], args := [d] }
  | _ => none }
def fnExactFirstSolutionRow : OpenClaim := { program := "ythakmnjamdggeaa", sum := "53c7b19a2b14b682632d2f7c25c6634be8cc9b5efa37e86d3b9306ff384fbe69", func := "loop.example/g01316/laws.FnExactFirstSolution", spec := "fnExactFirstSolution", unfollowed := true, recurses := true, apart := false }
def FnExactFirstSolutionSaid : Prop := fnExactFirstSolutionRow.holds Try.pinned (OpenSpec.ofChange fnExactFirstSolutionSpec)

/-- ITS FALSE NEIGHBOUR: 'it returns false'. Refute it at one input. -/
def fnExactFirstSolutionWrong : ChangeSpec := { name := "fnExactFirstSolution", fn := fun _ => fun
  | [d] => { results := [.lit (.bool false)], args := [d] }
  | _ => none }
def FnExactFirstSolutionWrongFalsely : Prop := fnExactFirstSolutionRow.holds Try.pinned (OpenSpec.ofChange fnExactFirstSolutionWrong)

/-- 'laws.FnExactSureCalls': WHATEVER THE INPUT: true; the input reads as it did. -/
def fnExactSureCallsSpec : ChangeSpec := { name := "fnExactSureCalls", fn := fun _ => fun
  | [d] => { results := [.lit (.bool true)], args := [d] }
  | _ => none }
def fnExactSureCallsRow : OpenClaim := { program := "ythakmnjamdggeaa", sum := "53c7b19a2b14b682632d2f7c25c6634be8cc9b5efa37e86d3b9306ff384fbe69", func := "loop.example/g01316/laws.FnExactSureCalls", spec := "fnExactSureCalls", inPlace := ["internal/abi.NoEscape", "internal/bytealg.MakeNoZero"], unfollowed := true, recurses := true, apart := false }
def FnExactSureCallsSaid : Prop := fnExactSureCallsRow.holds Try.pinned (OpenSpec.ofChange fnExactSureCallsSpec)

/-- ITS FALSE NEIGHBOUR: 'it returns false'. Refute it at one input. -/
def fnExactSureCallsWrong : ChangeSpec := { name := "fnExactSureCalls", fn := fun _ => fun
  | [d] => { results := [.lit (.bool false)], args := [d] }
  | _ => none }
def FnExactSureCallsWrongFalsely : Prop := fnExactSureCallsRow.holds Try.pinned (OpenSpec.ofChange fnExactSureCallsWrong)

/-- 'laws.FnExactLeftByClues': WHATEVER THE INPUT: true; the input reads as it did. -/
def fnExactLeftByCluesSpec : ChangeSpec := { name := "fnExactLeftByClues", fn := fun _ => fun
  | [d] => { results := [.lit (.bool true)], args := [d] }
  | _ => none }
def fnExactLeftByCluesRow : OpenClaim := { program := "ythakmnjamdggeaa", sum := "53c7b19a2b14b682632d2f7c25c6634be8cc9b5efa37e86d3b9306ff384fbe69", func := "loop.example/g01316/laws.FnExactLeftByClues", spec := "fnExactLeftByClues", unfollowed := true, recurses := true, apart := false }
def FnExactLeftByCluesSaid : Prop := fnExactLeftByCluesRow.holds Try.pinned (OpenSpec.ofChange fnExactLeftByCluesSpec)

/-- ITS FALSE NEIGHBOUR: 'it returns false'. Refute it at one input. -/
def fnExactLeftByCluesWrong : ChangeSpec := { name := "fnExactLeftByClues", fn := fun _ => fun
  | [d] => { results := [.lit (.bool false)], args := [d] }
  | _ => none }
def FnExactLeftByCluesWrongFalsely : Prop := fnExactLeftByCluesRow.holds Try.pinned (OpenSpec.ofChange fnExactLeftByCluesWrong)

/-- 'laws.FnExactMakePuzzle': WHATEVER THE INPUT: true; the input reads as it did. -/
def fnExactMakePuzzleSpec : ChangeSpec := { name := "fnExactMakePuzzle", fn := fun _ => fun
  | [d1, d2, d3, d4] => { results := [.lit (.bool true)], args := [d1, d2, d3, d4] }
  | _ => none }
def fnExactMakePuzzleRow : OpenClaim := { program := "ythakmnjamdggeaa", sum := "53c7b19a2b14b682632d2f7c25c6634be8cc9b5efa37e86d3b9306ff384fbe69", func := "loop.example/g01316/laws.FnExactMakePuzzle", spec := "fnExactMakePuzzle", unfollowed := true, recurses := true, apart := false }
def FnExactMakePuzzleSaid : Prop := fnExactMakePuzzleRow.holds Try.pinned (OpenSpec.ofChange fnExactMakePuzzleSpec)

/-- ITS FALSE NEIGHBOUR: 'it returns false'. Refute it at one input. -/
def fnExactMakePuzzleWrong : ChangeSpec := { name := "fnExactMakePuzzle", fn := fun _ => fun
  | [d1, d2, d3, d4] => { results := [.lit (.bool false)], args := [d1, d2, d3, d4] }
  | _ => none }
def FnExactMakePuzzleWrongFalsely : Prop := fnExactMakePuzzleRow.holds Try.pinned (OpenSpec.ofChange fnExactMakePuzzleWrong)

/- THE SECOND FORM. 'bulk': how many values and letters a reading holds, each counted each time it is reached (what is shared counts as often as it is met; a slice's spare places count too). A statement '..UptoSaid' is the law's where the arguments, and the package variables that the reading takes, are together of bulk at most 1048576: NARROWER than '..Said'. Prove '..Said' where nothing that the law and all that it calls make is longer than what came in: it says more and counts as full. Else prove '..UptoSaid'. A law counts once. -/
mutual
def uptoBulk {H : Type} : DataW H → Nat
  | .lit (.string bytes) => bytes.length + 1
  | .lit _ => 1
  | .nil => 1
  | .ptr d => uptoBulk d + 1
  | .slice elems spare => uptoBulkAll elems + uptoBulkAll spare + 1
  | .agg parts => uptoBulkAll parts + 1
  | .iface _ d => uptoBulk d + 1
  | .map entries => uptoBulkEntries entries + 1
  | .held _ => 1
def uptoBulkAll {H : Type} : List (DataW H) → Nat
  | [] => 0
  | d :: r => uptoBulk d + uptoBulkAll r
def uptoBulkEntries {H : Type} : List (Lit × DataW H) → Nat
  | [] => 0
  | x :: r => uptoBulkEntry x + uptoBulkEntries r
def uptoBulkEntry {H : Type} : Lit × DataW H → Nat
  | (.string bytes, d) => bytes.length + uptoBulk d + 1
  | (_, d) => uptoBulk d + 1
 end
def uptoSmall : (H : Type) → List (DataW H) → Bool := fun _ ds => decide (uptoBulkAll ds ≤ 1048576)
def OpenSpec.upto (s : _root_.Go.ChangeSpec) : _root_.Go.OpenSpec := { _root_.Go.OpenSpec.ofChange s with cond := some uptoSmall }

/-- 'laws.FnExactHiddenLists', WHERE WHAT IT READS IS OF BULK AT MOST 1048576: true; the input reads as it did. -/
def fnExactHiddenListsUptoRow : OpenClaim := { program := "ythakmnjamdggeaa", sum := "53c7b19a2b14b682632d2f7c25c6634be8cc9b5efa37e86d3b9306ff384fbe69", func := "loop.example/g01316/laws.FnExactHiddenLists", spec := "fnExactHiddenLists", unfollowed := true, recurses := true, apart := false, narrowed := true }
def FnExactHiddenListsUptoSaid : Prop := fnExactHiddenListsUptoRow.holds Try.pinned (OpenSpec.upto fnExactHiddenListsSpec)

/-- 'laws.FnExactDoesFit', WHERE WHAT IT READS IS OF BULK AT MOST 1048576: true; the input reads as it did. -/
def fnExactDoesFitUptoRow : OpenClaim := { program := "ythakmnjamdggeaa", sum := "53c7b19a2b14b682632d2f7c25c6634be8cc9b5efa37e86d3b9306ff384fbe69", func := "loop.example/g01316/laws.FnExactDoesFit", spec := "fnExactDoesFit", unfollowed := true, recurses := true, apart := false, narrowed := true }
def FnExactDoesFitUptoSaid : Prop := fnExactDoesFitUptoRow.holds Try.pinned (OpenSpec.upto fnExactDoesFitSpec)

/-- 'laws.FnExactCountSolutions', WHERE WHAT IT READS IS OF BULK AT MOST 1048576: true; the input reads as it did. -/
def fnExactCountSolutionsUptoRow : OpenClaim := { program := "ythakmnjamdggeaa", sum := "53c7b19a2b14b682632d2f7c25c6634be8cc9b5efa37e86d3b9306ff384fbe69", func := "loop.example/g01316/laws.FnExactCountSolutions", spec := "fnExactCountSolutions", unfollowed := true, recurses := true, apart := false, narrowed := true }
def FnExactCountSolutionsUptoSaid : Prop := fnExactCountSolutionsUptoRow.holds Try.pinned (OpenSpec.upto fnExactCountSolutionsSpec)

/-- 'laws.FnExactIsSolved', WHERE WHAT IT READS IS OF BULK AT MOST 1048576: true; the input reads as it did. -/
def fnExactIsSolvedUptoRow : OpenClaim := { program := "ythakmnjamdggeaa", sum := "53c7b19a2b14b682632d2f7c25c6634be8cc9b5efa37e86d3b9306ff384fbe69", func := "loop.example/g01316/laws.FnExactIsSolved", spec := "fnExactIsSolved", unfollowed := true, recurses := true, apart := false, narrowed := true }
def FnExactIsSolvedUptoSaid : Prop := fnExactIsSolvedUptoRow.holds Try.pinned (OpenSpec.upto fnExactIsSolvedSpec)

/-- 'laws.FnExactSolutions', WHERE WHAT IT READS IS OF BULK AT MOST 1048576: true; the input reads as it did. -/
def fnExactSolutionsUptoRow : OpenClaim := { program := "ythakmnjamdggeaa", sum := "53c7b19a2b14b682632d2f7c25c6634be8cc9b5efa37e86d3b9306ff384fbe69", func := "loop.example/g01316/laws.FnExactSolutions", spec := "fnExactSolutions", unfollowed := true, recurses := true, apart := false, narrowed := true }
def FnExactSolutionsUptoSaid : Prop := fnExactSolutionsUptoRow.holds Try.pinned (OpenSpec.upto fnExactSolutionsSpec)

/-- 'laws.FnExactFirstSolution', WHERE WHAT IT READS IS OF BULK AT MOST 1048576: true; the input reads as it did. -/
def fnExactFirstSolutionUptoRow : OpenClaim := { program := "ythakmnjamdggeaa", sum := "53c7b19a2b14b682632d2f7c25c6634be8cc9b5efa37e86d3b9306ff384fbe69", func := "loop.example/g01316/laws.FnExactFirstSolution", spec := "fnExactFirstSolution", unfollowed := true, recurses := true, apart := false, narrowed := true }
def FnExactFirstSolutionUptoSaid : Prop := fnExactFirstSolutionUptoRow.holds Try.pinned (OpenSpec.upto fnExactFirstSolutionSpec)

/-- 'laws.FnExactSureCalls', WHERE WHAT IT READS IS OF BULK AT MOST 1048576: true; the input reads as it did. -/
def fnExactSureCallsUptoRow : OpenClaim := { program := "ythakmnjamdggeaa", sum := "53c7b19a2b14b682632d2f7c25c6634be8cc9b5efa37e86d3b9306ff384fbe69", func := "loop.example/g01316/laws.FnExactSureCalls", spec := "fnExactSureCalls", inPlace := ["internal/abi.NoEscape", "internal/bytealg.MakeNoZero"], unfollowed := true, recurses := true, apart := false, narrowed := true }
def FnExactSureCallsUptoSaid : Prop := fnExactSureCallsUptoRow.holds Try.pinned (OpenSpec.upto fnExactSureCallsSpec)

/-- 'laws.FnExactLeftByClues', WHERE WHAT IT READS IS OF BULK AT MOST 1048576: true; the input reads as it did. -/
def fnExactLeftByCluesUptoRow : OpenClaim := { program := "ythakmnjamdggeaa", sum := "53c7b19a2b14b682632d2f7c25c6634be8cc9b5efa37e86d3b9306ff384fbe69", func := "loop.example/g01316/laws.FnExactLeftByClues", spec := "fnExactLeftByClues", unfollowed := true, recurses := true, apart := false, narrowed := true }
def FnExactLeftByCluesUptoSaid : Prop := fnExactLeftByCluesUptoRow.holds Try.pinned (OpenSpec.upto fnExactLeftByCluesSpec)

/-- 'laws.FnExactMakePuzzle', WHERE WHAT IT READS IS OF BULK AT MOST 1048576: true; the input reads as it did. -/
def fnExactMakePuzzleUptoRow : OpenClaim := { program := "ythakmnjamdggeaa", sum := "53c7b19a2b14b682632d2f7c25c6634be8cc9b5efa37e86d3b9306ff384fbe69", func := "loop.example/g01316/laws.FnExactMakePuzzle", spec := "fnExactMakePuzzle", unfollowed := true, recurses := true, apart := false, narrowed := true }
def FnExactMakePuzzleUptoSaid : Prop := fnExactMakePuzzleUptoRow.holds Try.pinned (OpenSpec.upto fnExactMakePuzzleSpec)

end Rows
end Go.Proofs.Ythakmnjamdggeaa
