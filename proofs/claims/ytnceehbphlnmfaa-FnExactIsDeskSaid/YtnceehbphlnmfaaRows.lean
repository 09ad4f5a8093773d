/-
  No cell of these rows narrows 'for every input' (looked for: loops, veiled, ifaces, maps, wideKeys, modest, calm, conditions, laid).
  DERIVED. THE GIVEN ROWS OF THIS SEAT. 11 by the template 'for every input the law returns true; each argument reads behind the call as it read before'; 0 by the template 'total and deterministic' (their statements: YtnceehbphlnmfaaTotals.lean).
  GIVEN WITH THE SEED: the statements are not yours to turn. If you find one false, say at which input.
  Laid BY PROGRAM, IN A SANDBOX (cutbox-rows.mjs): the forced cells as the released guide's own fill.sh prints them over the translation 49be7364784a652d… (all of the seat's roots in one cut). By AI agents, Wed Nov 11 2026. No macro, syntax, notation, axiom, sorry.
-/
import Derived.Test.YtnceehbphlnmfaaChecked
import GoSem.Claim
import GoSem.ClaimJoined
import GoSem.ClaimMapViews
import Derived.JoinedTies
import Derived.KernelRfl
namespace Go.Proofs.Ytnceehbphlnmfaa
/- THE CELL 'sum', in the pinned program and in every row, IS THE sha256 OF THE DUMP (.gsa) THAT YtnceehbphlnmfaaProg.lean LOADS. Nothing in Lean hashes anything: it is a label: what it is worth is what the hold of that sum in a sandbox is worth. -/
noncomputable def Try.pinned : Pinned := { name := "ytnceehbphlnmfaa", sum := "49be7364784a652dbbdae1c116d0ca6717ae1d01688bccf415d2b1228e2363fd", checked := Try.checked }
namespace Rows
def none {H : Type} : Left H := { results := [], args := [] }

/-- 'laws.FnExactIsClue': WHATEVER THE INPUT: true; the input reads as it did. -/
def fnExactIsClueSpec : ChangeSpec := { name := "fnExactIsClue", fn := fun _ => fun
  | [d1, d2, d3] => { results := [.lit (.bool true)], args := [d1, d2, d3] }
  | _ => none }
def fnExactIsClueRow : OpenClaim := { program := "ytnceehbphlnmfaa", sum := "49be7364784a652dbbdae1c116d0ca6717ae1d01688bccf415d2b1228e2363fd", func := "loop.example/g01316/laws.FnExactIsClue", spec := "fnExactIsClue", apart := false }
def FnExactIsClueSaid : Prop := fnExactIsClueRow.holds Try.pinned (OpenSpec.ofChange fnExactIsClueSpec)

/-- ITS FALSE NEIGHBOUR: 'it returns false'. Refute it at one input. -/
def fnExactIsClueWrong : ChangeSpec := { name := "fnExactIsClue", fn := fun _ => fun
  | [d1, d2, d3] => { results := [.lit (.bool false)], args := [d1, d2, d3] }
  | _ => none }
def FnExactIsClueWrongFalsely : Prop := fnExactIsClueRow.holds Try.pinned (OpenSpec.ofChange fnExactIsClueWrong)

/-- 'laws.FnExactFirstDesk': WHATEVER THE INPUT: true; the input reads as it did. -/
def fnExactFirstDeskSpec : ChangeSpec := { name := "fnExactFirstDesk", fn := fun _ => fun
  | [] => { results := [.lit (.bool true)], args := [] }
  | _ => none }
def fnExactFirstDeskRow : OpenClaim := { program := "ytnceehbphlnmfaa", sum := "49be7364784a652dbbdae1c116d0ca6717ae1d01688bccf415d2b1228e2363fd", func := "loop.example/g01316/laws.FnExactFirstDesk", spec := "fnExactFirstDesk", apart := false }
def FnExactFirstDeskSaid : Prop := fnExactFirstDeskRow.holds Try.pinned (OpenSpec.ofChange fnExactFirstDeskSpec)

/-- ITS FALSE NEIGHBOUR: 'it returns false'. Refute it at one input. -/
def fnExactFirstDeskWrong : ChangeSpec := { name := "fnExactFirstDesk", fn := fun _ => fun
  | [] => { results := [.lit (.bool false)], args := [] }
  | _ => none }
def FnExactFirstDeskWrongFalsely : Prop := fnExactFirstDeskRow.holds Try.pinned (OpenSpec.ofChange fnExactFirstDeskWrong)

/-- 'laws.FnExactIsDesk': WHATEVER THE INPUT: true; the input reads as it did. -/
def fnExactIsDeskSpec : ChangeSpec := { name := "fnExactIsDesk", fn := fun _ => fun
  | [d] => { results := [.lit (.bool true)], args := [d] }
  | _ => none }
def fnExactIsDeskRow : OpenClaim := { program := "ytnceehbphlnmfaa", sum := "49be7364784a652dbbdae1c116d0ca6717ae1d01688bccf415d2b1228e2363fd", func := "loop.example/g01316/laws.FnExactIsDesk", spec := "fnExactIsDesk", unfollowed := true, recurses := true, apart := false }
def FnExactIsDeskSaid : Prop := fnExactIsDeskRow.holds Try.pinned (OpenSpec.ofChange fnExactIsDeskSpec)

/-- ITS FALSE NEIGHBOUR: 'it returns false'. Refute it at one input. -/
def fnExactIsDeskWrong : ChangeSpec := { name := "fnExactIsDesk", fn := fun _ => fun
  | [d] => { results := [.lit (.bool false)], args := [d] }
  | _ => none }
def FnExactIsDeskWrongFalsely : Prop := fnExactIsDeskRow.holds Try.pinned (OpenSpec.ofChange fnExactIsDeskWrong)

/-- 'laws.FnExactCountCasts': WHATEVER THE INPUT: true; the input reads as it did. -/
def fnExactCountCastsSpec : ChangeSpec := { name := "fnExactCountCasts", fn := fun _ => fun
  | [d1, d2] => { results := [.lit (.bool true)], args := [d1, d2] }
  | _ => none }
def fnExactCountCastsRow : OpenClaim := { program := "ytnceehbphlnmfaa", sum := "49be7364784a652dbbdae1c116d0ca6717ae1d01688bccf415d2b1228e2363fd", func := "loop.example/g01316/laws.FnExactCountCasts", spec := "fnExactCountCasts", unfollowed := true, recurses := true, apart := false }
def FnExactCountCastsSaid : Prop := fnExactCountCastsRow.holds Try.pinned (OpenSpec.ofChange fnExactCountCastsSpec)

/-- ITS FALSE NEIGHBOUR: 'it returns false'. Refute it at one input. -/
def fnExactCountCastsWrong : ChangeSpec := { name := "fnExactCountCasts", fn := fun _ => fun
  | [d1, d2] => { results := [.lit (.bool false)], args := [d1, d2] }
  | _ => none }
def FnExactCountCastsWrongFalsely : Prop := fnExactCountCastsRow.holds Try.pinned (OpenSpec.ofChange fnExactCountCastsWrong)

/-- 'laws.FnExactFirstClash': WHATEVER THE INPUT: true; the input reads as it did. -/
def fnExactFirstClashSpec : ChangeSpec := { name := "fnExactFirstClash", fn := fun _ => fun
  | [d1, d2] => { results := [.lit (.bool true)], args := [d1, d2] }
  | _ => none }
def fnExactFirstClashRow : OpenClaim := { program := "ytnceehbphlnmfaa", sum := "49be7364784a652dbbdae1c116d0ca6717ae1d01688bccf415d2b1228e2363fd", func := "loop.example/g01316/laws.FnExactFirstClash", spec := "fnExactFirstClash", unfollowed := true, recurses := true, apart := false }
def FnExactFirstClashSaid : Prop := fnExactFirstClashRow.holds Try.pinned (OpenSpec.ofChange fnExactFirstClashSpec)

/-- ITS FALSE NEIGHBOUR: 'it returns false'. Refute it at one input. -/
def fnExactFirstClashWrong : ChangeSpec := { name := "fnExactFirstClash", fn := fun _ => fun
  | [d1, d2] => { results := [.lit (.bool false)], args := [d1, d2] }
  | _ => none }
def FnExactFirstClashWrongFalsely : Prop := fnExactFirstClashRow.holds Try.pinned (OpenSpec.ofChange fnExactFirstClashWrong)

/-- 'laws.FnExactIsPuzzle': WHATEVER THE INPUT: true; the input reads as it did. -/
def fnExactIsPuzzleSpec : ChangeSpec := { name := "fnExactIsPuzzle", fn := fun _ => fun
  | [d] => { results := [.lit (.bool true)], args := [d] }
  | _ => none }
def fnExactIsPuzzleRow : OpenClaim := { program := "ytnceehbphlnmfaa", sum := "49be7364784a652dbbdae1c116d0ca6717ae1d01688bccf415d2b1228e2363fd", func := "loop.example/g01316/laws.FnExactIsPuzzle", spec := "fnExactIsPuzzle", unfollowed := true, recurses := true, apart := false }
def FnExactIsPuzzleSaid : Prop := fnExactIsPuzzleRow.holds Try.pinned (OpenSpec.ofChange fnExactIsPuzzleSpec)

/-- ITS FALSE NEIGHBOUR: 'it returns false'. Refute it at one input. -/
def fnExactIsPuzzleWrong : ChangeSpec := { name := "fnExactIsPuzzle", fn := fun _ => fun
  | [d] => { results := [.lit (.bool false)], args := [d] }
  | _ => none }
def FnExactIsPuzzleWrongFalsely : Prop := fnExactIsPuzzleRow.holds Try.pinned (OpenSpec.ofChange fnExactIsPuzzleWrong)

/-- 'laws.FnExactSureCast': WHATEVER THE INPUT: true; the input reads as it did. -/
def fnExactSureCastSpec : ChangeSpec := { name := "fnExactSureCast", fn := fun _ => fun
  | [d1, d2] => { results := [.lit (.bool true)], args := [d1, d2] }
  | _ => none }
def fnExactSureCastRow : OpenClaim := { program := "ytnceehbphlnmfaa", sum := "49be7364784a652dbbdae1c116d0ca6717ae1d01688bccf415d2b1228e2363fd", func := "loop.example/g01316/laws.FnExactSureCast", spec := "fnExactSureCast", unfollowed := true, recurses := true, apart := false }
def FnExactSureCastSaid : Prop := fnExactSureCastRow.holds Try.pinned (OpenSpec.ofChange fnExactSureCastSpec)

/-- ITS FALSE NEIGHBOUR: 'it returns false'. Refute it at one input. -/
def fnExactSureCastWrong : ChangeSpec := { name := "fnExactSureCast", fn := fun _ => fun
  | [d1, d2] => { results := [.lit (.bool false)], args := [d1, d2] }
  | _ => none }
def FnExactSureCastWrongFalsely : Prop := fnExactSureCastRow.holds Try.pinned (OpenSpec.ofChange fnExactSureCastWrong)

/-- 'laws.FnExactWouldSay': WHATEVER THE INPUT: true; the input reads as it did. -/
def fnExactWouldSaySpec : ChangeSpec := { name := "fnExactWouldSay", fn := fun _ => fun
  | [d1, d2, d3, d4] => { results := [.lit (.bool true)], args := [d1, d2, d3, d4] }
  | _ => none }
def fnExactWouldSayRow : OpenClaim := { program := "ytnceehbphlnmfaa", sum := "49be7364784a652dbbdae1c116d0ca6717ae1d01688bccf415d2b1228e2363fd", func := "loop.example/g01316/laws.FnExactWouldSay", spec := "fnExactWouldSay", unfollowed := true, recurses := true, apart := false }
def FnExactWouldSaySaid : Prop := fnExactWouldSayRow.holds Try.pinned (OpenSpec.ofChange fnExactWouldSaySpec)

/-- ITS FALSE NEIGHBOUR: 'it returns false'. Refute it at one input. -/
def fnExactWouldSayWrong : ChangeSpec := { name := "fnExactWouldSay", fn := fun _ => fun
  | [d1, d2, d3, d4] => { results := [.lit (.bool false)], args := [d1, d2, d3, d4] }
  | _ => none }
def FnExactWouldSayWrongFalsely : Prop := fnExactWouldSayRow.holds Try.pinned (OpenSpec.ofChange fnExactWouldSayWrong)

/-- 'laws.FnExactCastsOf': WHATEVER THE INPUT: true; the input reads as it did. -/
def fnExactCastsOfSpec : ChangeSpec := { name := "fnExactCastsOf", fn := fun _ => fun
  | [d1, d2] => { results := [.lit (.bool true)], args := [d1, d2] }
  | _ => none }
def fnExactCastsOfRow : OpenClaim := { program := "ytnceehbphlnmfaa", sum := "49be7364784a652dbbdae1c116d0ca6717ae1d01688bccf415d2b1228e2363fd", func := "loop.example/g01316/laws.FnExactCastsOf", spec := "fnExactCastsOf", unfollowed := true, recurses := true, apart := false }
def FnExactCastsOfSaid : Prop := fnExactCastsOfRow.holds Try.pinned (OpenSpec.ofChange fnExactCastsOfSpec)

/-- ITS FALSE NEIGHBOUR: 'it returns false'. Refute it at one input. -/
def fnExactCastsOfWrong : ChangeSpec := { name := "fnExactCastsOf", fn := fun _ => fun
  | [d1, d2] => { results := [.lit (.bool false)], args := [d1, d2] }
  | _ => none }
def FnExactCastsOfWrongFalsely : Prop := fnExactCastsOfRow.holds Try.pinned (OpenSpec.ofChange fnExactCastsOfWrong)

/-- 'laws.FnExactClaimsText': WHATEVER THE INPUT: true; the input reads as it did. -/
def fnExactClaimsTextSpec : ChangeSpec := { name := "fnExactClaimsText", fn := fun _ => fun
  | [d] => { results := [.lit (.bool true)], args := [d] }
  | _ => none }
def fnExactClaimsTextRow : OpenClaim := { program := "ytnceehbphlnmfaa", sum := "49be7364784a652dbbdae1c116d0ca6717ae1d01688bccf415d2b1228e2363fd", func := "loop.example/g01316/laws.FnExactClaimsText", spec := "fnExactClaimsText", inPlace := ["internal/abi.NoEscape", "internal/bytealg.MakeNoZero"], unfollowed := true, recurses := true, apart := false }
def FnExactClaimsTextSaid : Prop := fnExactClaimsTextRow.holds Try.pinned (OpenSpec.ofChange fnExactClaimsTextSpec)

/-- ITS FALSE NEIGHBOUR: 'it returns false'. Refute it at one input. -/
def fnExactClaimsTextWrong : ChangeSpec := { name := "fnExactClaimsText", fn := fun _ => fun
  | [d] => { results := [.lit (.bool false)], args := [d] }
  | _ => none }
def FnExactClaimsTextWrongFalsely : Prop := fnExactClaimsTextRow.holds Try.pinned (OpenSpec.ofChange fnExactClaimsTextWrong)

/-- 'laws.FnExactNeedlessClaims': WHATEVER THE INPUT: true; the input reads as it did. -/
def fnExactNeedlessClaimsSpec : ChangeSpec := { name := "fnExactNeedlessClaims", fn := fun _ => fun
  | [d1, d2] => { results := [.lit (.bool true)], args := [d1, d2] }
  | _ => none }
def fnExactNeedlessClaimsRow : OpenClaim := { program := "ytnceehbphlnmfaa", sum := "49be7364784a652dbbdae1c116d0ca6717ae1d01688bccf415d2b1228e2363fd", func := "loop.example/g01316/laws.FnExactNeedlessClaims", spec := "fnExactNeedlessClaims", unfollowed := true, recurses := true, apart := false }
def FnExactNeedlessClaimsSaid : Prop := fnExactNeedlessClaimsRow.holds Try.pinned (OpenSpec.ofChange fnExactNeedlessClaimsSpec)

/-- ITS FALSE NEIGHBOUR: 'it returns false'. Refute it at one input. -/
def fnExactNeedlessClaimsWrong : ChangeSpec := { name := "fnExactNeedlessClaims", fn := fun _ => fun
  | [d1, d2] => { results := [.lit (.bool false)], args := [d1, d2] }
  | _ => none }
def FnExactNeedlessClaimsWrongFalsely : Prop := fnExactNeedlessClaimsRow.holds Try.pinned (OpenSpec.ofChange fnExactNeedlessClaimsWrong)

/- THE SECOND FORM. 'bulk': how many values and letters a reading holds, each counted each time it is reached (what is shared counts as often as it is met; a slice's spare places count too). A statement '..UptoSaid' is the law's where the arguments, and the package variables that the reading takes, are together of bulk at most 1048576: NARROWER than '..Said'. Prove '..Said' where nothing that the law and all that it calls make is longer than what came in: it says more and counts as full. Else prove '..UptoSaid'. A law counts once. -/
mutual
def uptoBulk {H : Type} : DataW H → Nat
  | .lit (.string bytes) => bytes.length + 1
  | .lit _ => 1
  | .nil => 1
  | .ptr d => uptoBulk d + 1
  | .slice elems spare => uptoBulkAll elems + uptoBulkAll spare + 1
  | .agg parts => uptoBulkAll parts + 1
  | .iface _ d => uptoBulk d + 1
  | .map entries => uptoBulkEntries entries + 1
  | .held _ => 1
def uptoBulkAll {H : Type} : List (DataW H) → Nat
  | [] => 0
  | d :: r => uptoBulk d + uptoBulkAll r
def uptoBulkEntries {H : Type} : List (Lit × DataW H) → Nat
  | [] => 0
  | x :: r => uptoBulkEntry x + uptoBulkEntries r
def uptoBulkEntry {H : Type} : Lit × DataW H → Nat
  | (.string bytes, d) => bytes.length + uptoBulk d + 1
  | (_, d) => uptoBulk d + 1
 end
def uptoSmall : (H : Type) → List (DataW H) → Bool := fun _ ds => decide (uptoBulkAll ds ≤ 1048576)
def OpenSpec.upto (s : _root_.Go.ChangeSpec) : _root_.Go.OpenSpec := { _root_.Go.OpenSpec.ofChange s with cond := some uptoSmall }

/-- 'laws.FnExactIsClue', WHERE WHAT IT READS IS OF BULK AT MOST 1048576: true; the input reads as it did. -/
def fnExactIsClueUptoRow : OpenClaim := { program := "ytnceehbphlnmfaa", sum := "49be7364784a652dbbdae1c116d0ca6717ae1d01688bccf415d2b1228e2363fd", func := "loop.example/g01316/laws.FnExactIsClue", spec := "fnExactIsClue", apart := false, narrowed := true }
def FnExactIsClueUptoSaid : Prop := fnExactIsClueUptoRow.holds Try.pinned (OpenSpec.upto fnExactIsClueSpec)

/-- 'laws.FnExactFirstDesk', WHERE WHAT IT READS IS OF BULK AT MOST 1048576: true; the input reads as it did. -/
def fnExactFirstDeskUptoRow : OpenClaim := { program := "ytnceehbphlnmfaa", sum := "49be7364784a652dbbdae1c116d0ca6717ae1d01688bccf415d2b1228e2363fd", func := "loop.example/g01316/laws.FnExactFirstDesk", spec := "fnExactFirstDesk", apart := false, narrowed := true }
def FnExactFirstDeskUptoSaid : Prop := fnExactFirstDeskUptoRow.holds Try.pinned (OpenSpec.upto fnExactFirstDeskSpec)

/-- 'laws.FnExactIsDesk', WHERE WHAT IT READS IS OF BULK AT MOST 1048576: true; the input reads as it did. -/
def fnExactIsDeskUptoRow : OpenClaim := { program := "ytnceehbphlnmfaa", sum := "49be7364784a652dbbdae1c116d0ca6717ae1d01688bccf415d2b1228e2363fd", func := "loop.example/g01316/laws.FnExactIsDesk", spec := "fnExactIsDesk", unfollowed := true, recurses := true, apart := false, narrowed := true }
def FnExactIsDeskUptoSaid : Prop := fnExactIsDeskUptoRow.holds Try.pinned (OpenSpec.upto fnExactIsDeskSpec)

/-- 'laws.FnExactCountCasts', WHERE WHAT IT READS IS OF BULK AT MOST 1048576: true; the input reads as it did. -/
def fnExactCountCastsUptoRow : OpenClaim := { program := "ytnceehbphlnmfaa", sum := "49be7364784a652dbbdae1c116d0ca6717ae1d01688bccf415d2b1228e2363fd", func := "loop.example/g01316/laws.FnExactCountCasts", spec := "fnExactCountCasts", unfollowed := true, recurses := true, apart := false, narrowed := true }
def FnExactCountCastsUptoSaid : Prop := fnExactCountCastsUptoRow.holds Try.pinned (OpenSpec.upto fnExactCountCastsSpec)

/-- 'laws.FnExactFirstClash', WHERE WHAT IT READS IS OF BULK AT MOST 1048576: true; the input reads as it did. -/
def fnExactFirstClashUptoRow : OpenClaim := { program := "ytnceehbphlnmfaa", sum := "49be7364784a652dbbdae1c116d0ca6717ae1d01688bccf415d2b1228e2363fd", func := "loop.example/g01316/laws.FnExactFirstClash", spec := "fnExactFirstClash", unfollowed := true, recurses := true, apart := false, narrowed := true }
def FnExactFirstClashUptoSaid : Prop := fnExactFirstClashUptoRow.holds Try.pinned (OpenSpec.upto fnExactFirstClashSpec)

/-- 'laws.FnExactIsPuzzle', WHERE WHAT IT READS IS OF BULK AT MOST 1048576: true; the input reads as it did. -/
def fnExactIsPuzzleUptoRow : OpenClaim := { program := "ytnceehbphlnmfaa", sum := "49be7364784a652dbbdae1c116d0ca6717ae1d01688bccf415d2b1228e2363fd", func := "loop.example/g01316/laws.FnExactIsPuzzle", spec := "fnExactIsPuzzle", unfollowed := true, recurses := true, apart := false, narrowed := true }
def FnExactIsPuzzleUptoSaid : Prop := fnExactIsPuzzleUptoRow.holds Try.pinned (OpenSpec.upto fnExactIsPuzzleSpec)

/-- 'laws.FnExactSureCast', WHERE WHAT IT READS IS OF BULK AT MOST 1048576: true; the input reads as it did. -/
def fnExactSureCastUptoRow : OpenClaim := { program := "ytnceehbphlnmfaa", sum := "49be7364784a652dbbdae1c116d0ca6717ae1d01688bccf415d2b1228e2363fd", func := "loop.example/g01316/laws.FnExactSureCast", spec := "fnExactSureCast", unfollowed := true, recurses := true, apart := false, narrowed := true }
def FnExactSureCastUptoSaid : Prop := fnExactSureCastUptoRow.holds Try.pinned (OpenSpec.upto fnExactSureCastSpec)

/-- 'laws.FnExactWouldSay', WHERE WHAT IT READS IS OF BULK AT MOST 1048576: true; the input reads as it did. -/
def fnExactWouldSayUptoRow : OpenClaim := { program := "ytnceehbphlnmfaa", sum := "49be7364784a652dbbdae1c116d0ca6717ae1d01688bccf415d2b1228e2363fd", func := "loop.example/g01316/laws.FnExactWouldSay", spec := "fnExactWouldSay", unfollowed := true, recurses := true, apart := false, narrowed := true }
def FnExactWouldSayUptoSaid : Prop := fnExactWouldSayUptoRow.holds Try.pinned (OpenSpec.upto fnExactWouldSaySpec)

/-- 'laws.FnExactCastsOf', WHERE WHAT IT READS IS OF BULK AT MOST 1048576: true; the input reads as it did. -/
def fnExactCastsOfUptoRow : OpenClaim := { program := "ytnceehbphlnmfaa", sum := "49be7364784a652dbbdae1c116d0ca6717ae1d01688bccf415d2b1228e2363fd", func := "loop.example/g01316/laws.FnExactCastsOf", spec := "fnExactCastsOf", unfollowed := true, recurses := true, apart := false, narrowed := true }
def FnExactCastsOfUptoSaid : Prop := fnExactCastsOfUptoRow.holds Try.pinned (OpenSpec.upto fnExactCastsOfSpec)

/-- 'laws.FnExactClaimsText', WHERE WHAT IT READS IS OF BULK AT MOST 1048576: true; the input reads as it did. -/
def fnExactClaimsTextUptoRow : OpenClaim := { program := "ytnceehbphlnmfaa", sum := "49be7364784a652dbbdae1c116d0ca6717ae1d01688bccf415d2b1228e2363fd", func := "loop.example/g01316/laws.FnExactClaimsText", spec := "fnExactClaimsText", inPlace := ["internal/abi.NoEscape", "internal/bytealg.MakeNoZero"], unfollowed := true, recurses := true, apart := false, narrowed := true }
def FnExactClaimsTextUptoSaid : Prop := fnExactClaimsTextUptoRow.holds Try.pinned (OpenSpec.upto fnExactClaimsTextSpec)

/-- 'laws.FnExactNeedlessClaims', WHERE WHAT IT READS IS OF BULK AT MOST 1048576: true; the input reads as it did. -/
def fnExactNeedlessClaimsUptoRow : OpenClaim := { program := "ytnceehbphlnmfaa", sum := "49be7364784a652dbbdae1c116d0ca6717ae1d01688bccf415d2b1228e2363fd", func := "loop.example/g01316/laws.FnExactNeedlessClaims", spec := "fnExactNeedlessClaims", unfollowed := true, recurses := true, apart := false, narrowed := true }
def FnExactNeedlessClaimsUptoSaid : Prop := fnExactNeedlessClaimsUptoRow.holds Try.pinned (OpenSpec.upto fnExactNeedlessClaimsSpec)

end Rows
end Go.Proofs.Ytnceehbphlnmfaa
