/-
  No cell of these rows narrows 'for every input' (looked for: loops, veiled, ifaces, maps, wideKeys, modest, calm, conditions, laid).
  DERIVED. THE GIVEN ROWS OF THIS SEAT. 10 by the template 'for every input the law returns true; each argument reads behind the call as it read before'; 0 by the template 'total and deterministic' (their statements: YtidinhkaclaanaaTotals.lean).
  GIVEN WITH THE SEED: the statements are not yours to turn. If you find one false, say at which input.
  Laid BY PROGRAM, IN A SANDBOX (cutbox-rows.mjs): the forced cells as the released guide's own fill.sh prints them over the translation ad665885cb6e3bd6… (all of the seat's roots in one cut). By AI agents, Wed Nov 11 2026. No macro, syntax, notation, axiom, sorry.
-/
import Derived.Test.YtidinhkaclaanaaChecked
import GoSem.Claim
import GoSem.ClaimJoined
import GoSem.ClaimMapViews
import Derived.JoinedTies
import Derived.KernelRfl
namespace Go.Proofs.Ytidinhkaclaanaa
/- THE CELL 'sum', in the pinned program and in every row, IS THE sha256 OF THE DUMP (.gsa) THAT YtidinhkaclaanaaProg.lean LOADS. Nothing in Lean hashes anything: it is a label: what it is worth is what the hold of that sum in a sandbox is worth. -/
noncomputable def Try.pinned : Pinned := { name := "ytidinhkaclaanaa", sum := "ad665885cb6e3bd6d4a1908c6c3c9d6cbaba5f5a1b068783693f11d093bdbc35", checked := Try.checked }
namespace Rows
def none {H : Type} : Left H := { results := [], args := [] }

/-- 'laws.FnExactCountCasts': WHATEVER THE INPUT: true; the input reads as it did. -/
def fnExactCountCastsSpec : ChangeSpec := { name := "fnExactCountCasts", fn := fun _ => fun
  | [d1, d2] => { results := [.lit (.bool true)], args := [d1, d2] }
  | _ => none }
def fnExactCountCastsRow : OpenClaim := { program := "ytidinhkaclaanaa", sum := "ad665885cb6e3bd6d4a1908c6c3c9d6cbaba5f5a1b068783693f11d093bdbc35", func := "loop.example/g01316/laws.FnExactCountCasts", spec := "fnExactCountCasts", unfollowed := true, recurses := true, apart := false }
def FnExactCountCastsSaid : Prop := fnExactCountCastsRow.holds Try.pinned (OpenSpec.ofChange fnExactCountCastsSpec)

/-- ITS FALSE NEIGHBOUR: 'it returns false'. Refute it at one input. -/
def fnExactCountCastsWrong : ChangeSpec := { name := "fnExactCountCasts", fn := fun _ => fun
  | [d1, d2] => { results := [.lit (.bool false)], args := [d1, d2] }
  | _ => none }
def FnExactCountCastsWrongFalsely : Prop := fnExactCountCastsRow.holds Try.pinned (OpenSpec.ofChange fnExactCountCastsWrong)

/-- 'laws.FnExactFirstClash': WHATEVER THE INPUT: true; the input reads as it did. -/
def fnExactFirstClashSpec : ChangeSpec := { name := "fnExactFirstClash", fn := fun _ => fun
  | [d1, d2] => { results := [.lit (.bool true)], args := [d1, d2] }
  | _ => none }
def fnExactFirstClashRow : OpenClaim := { program := "ytidinhkaclaanaa", sum := "ad665885cb6e3bd6d4a1908c6c3c9d6cbaba5f5a1b068783693f11d093bdbc35", func := "loop.example/g01316/laws.FnExactFirstClash", spec := "fnExactFirstClash", unfollowed := true, recurses := true, apart := false }
def FnExactFirstClashSaid : Prop := fnExactFirstClashRow.holds Try.pinned (OpenSpec.ofChange fnExactFirstClashSpec)

/-- ITS FALSE NEIGHBOUR: 'it returns false'. Refute it at one input. -/
def fnExactFirstClashWrong : ChangeSpec := { name := "fnExactFirstClash", fn := fun _ => fun
  | [d1, d2] => { results := [.lit (.bool false)], args := [d1, d2] }
  | _ => none }
def FnExactFirstClashWrongFalsely : Prop := fnExactFirstClashRow.holds Try.pinned (OpenSpec.ofChange fnExactFirstClashWrong)

/-- 'laws.FnExactSureCast': WHATEVER THE INPUT: true; the input reads as it did. -/
def fnExactSureCastSpec : ChangeSpec := { name := "fnExactSureCast", fn := fun _ => fun
  | [d1, d2] => { results := [.lit (.bool true)], args := [d1, d2] }
  | _ => none }
def fnExactSureCastRow : OpenClaim := { program := "ytidinhkaclaanaa", sum := "ad665885cb6e3bd6d4a1908c6c3c9d6cbaba5f5a1b068783693f11d093bdbc35", func := "loop.example/g01316/laws.FnExactSureCast", spec := "fnExactSureCast", unfollowed := true, recurses := true, apart := false }
def FnExactSureCastSaid : Prop := fnExactSureCastRow.holds Try.pinned (OpenSpec.ofChange fnExactSureCastSpec)

/-- ITS FALSE NEIGHBOUR: 'it returns false'. Refute it at one input. -/
def fnExactSureCastWrong : ChangeSpec := { name := "fnExactSureCast", fn := fun _ => fun
  | [d1, d2] => { results := [.lit (.bool false)], args := [d1, d2] }
  | _ => none }
def FnExactSureCastWrongFalsely : Prop := fnExactSureCastRow.holds Try.pinned (OpenSpec.ofChange fnExactSureCastWrong)

/-- 'laws.FnExactWouldSay': WHATEVER THE INPUT: true; the input reads as it did. -/
def fnExactWouldSaySpec : ChangeSpec := { name := "fnExactWouldSay", fn := fun _ => fun
  | [d1, d2, d3, d4] => { results := [.lit (.bool true)], args := [d1, d2, d3, d4] }
  | _ => none }
def fnExactWouldSayRow : OpenClaim := { program := "ytidinhkaclaanaa", sum := "ad665885cb6e3bd6d4a1908c6c3c9d6cbaba5f5a1b068783693f11d093bdbc35", func := "loop.example/g01316/laws.FnExactWouldSay", spec := "fnExactWouldSay", unfollowed := true, recurses := true, apart := false }
def FnExactWouldSaySaid : Prop := fnExactWouldSayRow.holds Try.pinned (OpenSpec.ofChange fnExactWouldSaySpec)

/-- ITS FALSE NEIGHBOUR: 'it returns false'. Refute it at one input. -/
def fnExactWouldSayWrong : ChangeSpec := { name := "fnExactWouldSay", fn := fun _ => fun
  | [d1, d2, d3, d4] => { results := [.lit (.bool false)], args := [d1, d2, d3, d4] }
  | _ => none }
def FnExactWouldSayWrongFalsely : Prop := fnExactWouldSayRow.holds Try.pinned (OpenSpec.ofChange fnExactWouldSayWrong)

/-- 'laws.FnExactCastsOf': WHATEVER THE INPUT: true; the input reads as it did. -/
def fnExactCastsOfSpec : ChangeSpec := { name := "fnExactCastsOf", fn := fun _ => fun
  | [d1, d2] => { results := [.lit (.bool true)], args := [d1, d2] }
  | _ => none }
def fnExactCastsOfRow : OpenClaim := { program := "ytidinhkaclaanaa", sum := "ad665885cb6e3bd6d4a1908c6c3c9d6cbaba5f5a1b068783693f11d093bdbc35", func := "loop.example/g01316/laws.FnExactCastsOf", spec := "fnExactCastsOf", unfollowed := true, recurses := true, apart := false }
def FnExactCastsOfSaid : Prop := fnExactCastsOfRow.holds Try.pinned (OpenSpec.ofChange fnExactCastsOfSpec)

/-- ITS FALSE NEIGHBOUR: 'it returns false'. Refute it at one input. -/
def fnExactCastsOfWrong : ChangeSpec := { name := "fnExactCastsOf", fn := fun _ => fun
  | [d1, d2] => { results := [.lit (.bool false)], args := [d1, d2] }
  | _ => none }
def FnExactCastsOfWrongFalsely : Prop := fnExactCastsOfRow.holds Try.pinned (OpenSpec.ofChange fnExactCastsOfWrong)

/-- 'laws.FnExactClaimsText': WHATEVER THE INPUT: true; the input reads as it did. -/
def fnExactClaimsTextSpec : ChangeSpec := { name := "fnExactClaimsText", fn := fun _ => fun
  | [d] => { results := [.lit (.bool true)], args := [d] }
  | _ => none }
def fnExactClaimsTextRow : OpenClaim := { program := "ytidinhkaclaanaa", sum := "ad665885cb6e3bd6d4a1908c6c3c9d6cbaba5f5a1b068783693f11d093bdbc35", func := "loop.example/g01316/laws.FnExactClaimsText", spec := "fnExactClaimsText", inPlace := ["internal/abi.NoEscape", "internal/bytealg.MakeNoZero"], unfollowed := true, recurses := true, apart := false }
def FnExactClaimsTextSaid : Prop := fnExactClaimsTextRow.holds Try.pinned (OpenSpec.ofChange fnExactClaimsTextSpec)

/-- ITS FALSE NEIGHBOUR: 'it returns false'. Refute it at one input. -/
def fnExactClaimsTextWrong : ChangeSpec := { name := "fnExactClaimsText", fn := fun _ => fun
  | [d] => { results := [.lit (.bool false)], args := [d] }
  | _ => none }
def FnExactClaimsTextWrongFalsely : Prop := fnExactClaimsTextRow.holds Try.pinned (OpenSpec.ofChange fnExactClaimsTextWrong)

/-- 'laws.FnExactNeedlessClaims': WHATEVER THE INPUT: true; the input reads as it did. -/
def fnExactNeedlessClaimsSpec : ChangeSpec := { name := "fnExactNeedlessClaims", fn := fun _ => fun
  | [d1, d2] => { results := [.lit (.bool true)], args := [d1, d2] }
  | _ => none }
def fnExactNeedlessClaimsRow : OpenClaim := { program := "ytidinhkaclaanaa", sum := "ad665885cb6e3bd6d4a1908c6c3c9d6cbaba5f5a1b068783693f11d093bdbc35", func := "loop.example/g01316/laws.FnExactNeedlessClaims", spec := "fnExactNeedlessClaims", unfollowed := true, recurses := true, apart := false }
def FnExactNeedlessClaimsSaid : Prop := fnExactNeedlessClaimsRow.holds Try.pinned (OpenSpec.ofChange fnExactNeedlessClaimsSpec)

/-- ITS FALSE NEIGHBOUR: 'it returns false'. Refute it at one input. -/
def fnExactNeedlessClaimsWrong : ChangeSpec := { name := "fnExactNeedlessClaims", fn := fun _ => fun
  | [d1, d2] => { results := [.lit (.bool false)], args := [d1, d2] }
  | _ => none }
def FnExactNeedlessClaimsWrongFalsely : Prop := fnExactNeedlessClaimsRow.holds Try.pinned (OpenSpec.ofChange fnExactNeedlessClaimsWrong)

/-- 'laws.FnExactClaimGroups': WHATEVER THE INPUT: true; the input reads as it did. -/
def fnExactClaimGroupsSpec : ChangeSpec := { name := "fnExactClaimGroups", fn := fun _ => fun
  | [d1, d2] => { results := [.lit (.bool true)], args := [d1, d2] }
  | _ => none }
def fnExactClaimGroupsRow : OpenClaim := { program := "ytidinhkaclaanaa", sum := "ad665885cb6e3bd6d4a1908c6c3c9d6cbaba5f5a1b068783693f11d093bdbc35", func := "loop.example/g01316/laws.FnExactClaimGroups", spec := "fnExactClaimGroups", unfollowed := true, recurses := true, apart := false }
def FnExactClaimGroupsSaid : Prop := fnExactClaimGroupsRow.holds Try.pinned (OpenSpec.ofChange fnExactClaimGroupsSpec)

/-- ITS FALSE NEIGHBOUR: 'it returns false'. Refute it at one input. -/
def fnExactClaimGroupsWrong : ChangeSpec := { name := "fnExactClaimGroups", fn := fun _ => fun
  | [d1, d2] => { results := [.lit (.bool false)], args := [d1, d2] }
  | _ => none }
def FnExactClaimGroupsWrongFalsely : Prop := fnExactClaimGroupsRow.holds Try.pinned (OpenSpec.ofChange fnExactClaimGroupsWrong)

/-- 'laws.FnExactFewestLiars': WHATEVER THE INPUT: true; the input reads as it did. -/
def fnExactFewestLiarsSpec : ChangeSpec := { name := "fnExactFewestLiars", fn := fun _ => fun
  | [d1, d2] => { results := [.lit (.bool true)], args := [d1, d2] }
  | _ => none }
def fnExactFewestLiarsRow : OpenClaim := { program := "ytidinhkaclaanaa", sum := "ad665885cb6e3bd6d4a1908c6c3c9d6cbaba5f5a1b068783693f11d093bdbc35", func := "loop.example/g01316/laws.FnExactFewestLiars", spec := "fnExactFewestLiars", inPlace := ["internal/bytealg.CountString", "internal/bytealg.IndexByteString", "internal/bytealg.IndexString"], unfollowed := true, recurses := true, named := ["internal/bytealg.MaxLen"], apart := false }
def FnExactFewestLiarsSaid : Prop := fnExactFewestLiarsRow.holds Try.pinned (OpenSpec.ofChange fnExactFewestLiarsSpec)

/-- ITS FALSE NEIGHBOUR: 'it returns false'. Refute it at one input. -/
def fnExactFewestLiarsWrong : ChangeSpec := { name := "fnExactFewestLiars", fn := fun _ => fun
  | [d1, d2] => { results := [.lit (.bool false)], args := [d1, d2] }
  | _ => none }
def FnExactFewestLiarsWrongFalsely : Prop := fnExactFewestLiarsRow.holds Try.pinned (OpenSpec.ofChange fnExactFewestLiarsWrong)

/-- 'laws.FnExactMostLiars': WHATEVER THE INPUT: true; the input reads as it did. -/
def fnExactMostLiarsSpec : ChangeSpec := { name := "fnExactMostLiars", fn := fun _ => fun
  | [d1, d2] => { results := [.lit (.bool true)], args := [d1, d2] }
  | _ => none }
def fnExactMostLiarsRow : OpenClaim := { program := "ytidinhkaclaanaa", sum := "ad665885cb6e3bd6d4a1908c6c3c9d6cbaba5f5a1b068783693f11d093bdbc35", func := "loop.example/g01316/laws.FnExactMostLiars", spec := "fnExactMostLiars", inPlace := ["internal/bytealg.CountString", "internal/bytealg.IndexByteString", "internal/bytealg.IndexString"], unfollowed := true, recurses := true, named := ["internal/bytealg.MaxLen"], apart := false }
def FnExactMostLiarsSaid : Prop := fnExactMostLiarsRow.holds Try.pinned (OpenSpec.ofChange fnExactMostLiarsSpec)

/-- ITS FALSE NEIGHBOUR: 'it returns false'. Refute it at one input. -/
def fnExactMostLiarsWrong : ChangeSpec := { name := "fnExactMostLiars", fn := fun _ => fun
  | [d1, d2] => { results := [.lit (.bool false)], args := [d1, d2] }
  | _ => none }
def FnExactMostLiarsWrongFalsely : Prop := fnExactMostLiarsRow.holds Try.pinned (OpenSpec.ofChange fnExactMostLiarsWrong)

/- THE SECOND FORM. 'bulk': how many values and letters a reading holds, each counted each time it is reached (what is shared counts as often as it is met; a slice's spare places count too). A statement '..UptoSaid' is the law's where the arguments, and the package variables that the reading takes, are together of bulk at most 1048576: NARROWER than '..Said'. Prove '..Said' where nothing that the law and all that it calls make is longer than what came in: it says more and counts as full. Else prove '..UptoSaid'. A law counts once. -/
mutual
def uptoBulk {H : Type} : DataW H → Nat
  | .lit (.string bytes) => bytes.length + 1
  | .lit _ => 1
  | .nil => 1
  | .ptr d => uptoBulk d + 1
  | .slice elems spare => uptoBulkAll elems + uptoBulkAll spare + 1
  | .agg parts => uptoBulkAll parts + 1
  | .iface _ d => uptoBulk d + 1
  | .map entries => uptoBulkEntries entries + 1
  | .held _ => 1
def uptoBulkAll {H : Type} : List (DataW H) → Nat
  | [] => 0
  | d :: r => uptoBulk d + uptoBulkAll r
def uptoBulkEntries {H : Type} : List (Lit × DataW H) → Nat
  | [] => 0
  | x :: r => uptoBulkEntry x + uptoBulkEntries r
def uptoBulkEntry {H : Type} : Lit × DataW H → Nat
  | (.string bytes, d) => bytes.length + uptoBulk d + 1
  | (_, d) => uptoBulk d + 1
 end
def uptoSmall : (H : Type) → List (DataW H) → Bool := fun _ ds => decide (uptoBulkAll ds ≤ 1048576)
def OpenSpec.upto (s : _root_.Go.ChangeSpec) : _root_.Go.OpenSpec := { _root_.Go.OpenSpec.ofChange s with cond := some uptoSmall }

/-- 'laws.FnExactCountCasts', WHERE WHAT IT READS IS OF BULK AT MOST 1048576: true; the input reads as it did. -/
def fnExactCountCastsUptoRow : OpenClaim := { program := "ytidinhkaclaanaa", sum := "ad665885cb6e3bd6d4a1908c6c3c9d6cbaba5f5a1b068783693f11d093bdbc35", func := "loop.example/g01316/laws.FnExactCountCasts", spec := "fnExactCountCasts", unfollowed := true, recurses := true, apart := false, narrowed := true }
def FnExactCountCastsUptoSaid : Prop := fnExactCountCastsUptoRow.holds Try.pinned (OpenSpec.upto fnExactCountCastsSpec)

/-- 'laws.FnExactFirstClash', WHERE WHAT IT READS IS OF BULK AT MOST 1048576: true; the input reads as it did. -/
def fnExactFirstClashUptoRow : OpenClaim := { program := "ytidinhkaclaanaa", sum := "ad665885cb6e3bd6d4a1908c6c3c9d6cbaba5f5a1b068783693f11d093bdbc35", func := "loop.example/g01316/laws.FnExactFirstClash", spec := "fnExactFirstClash", unfollowed := true, recurses := true, apart := false, narrowed := true }
def FnExactFirstClashUptoSaid : Prop := fnExactFirstClashUptoRow.holds Try.pinned (OpenSpec.upto fnExactFirstClashSpec)

/-- 'laws.FnExactSureCast', WHERE WHAT IT READS IS OF BULK AT MOST 1048576: true; the input reads as it did. -/
def fnExactSureCastUptoRow : OpenClaim := { program := "ytidinhkaclaanaa", sum := "ad665885cb6e3bd6d4a1908c6c3c9d6cbaba5f5a1b068783693f11d093bdbc35", func := "loop.example/g01316/laws.FnExactSureCast", spec := "fnExactSureCast", unfollowed := true, recurses := true, apart := false, narrowed := true }
def FnExactSureCastUptoSaid : Prop := fnExactSureCastUptoRow.holds Try.pinned (OpenSpec.upto fnExactSureCastSpec)

/-- 'laws.FnExactWouldSay', WHERE WHAT IT READS IS OF BULK AT MOST 1048576: true; the input reads as it did. -/
def fnExactWouldSayUptoRow : OpenClaim := { program := "ytidinhkaclaanaa", sum := "ad665885cb6e3bd6d4a1908c6c3c9d6cbaba5f5a1b068783693f11d093bdbc35", func := "loop.example/g01316/laws.FnExactWouldSay", spec := "fnExactWouldSay", unfollowed := true, recurses := true, apart := false, narrowed := true }
def FnExactWouldSayUptoSaid : Prop := fnExactWouldSayUptoRow.holds Try.pinned (OpenSpec.upto fnExactWouldSaySpec)

/-- 'laws.FnExactCastsOf', WHERE WHAT IT READS IS OF BULK AT MOST 1048576: true; the input reads as it did. -/
def fnExactCastsOfUptoRow : OpenClaim := { program := "ytidinhkaclaanaa", sum := "ad665885cb6e3bd6d4a1908c6c3c9d6cbaba5f5a1b068783693f11d093bdbc35", func := "loop.example/g01316/laws.FnExactCastsOf", spec := "fnExactCastsOf", unfollowed := true, recurses := true, apart := false, narrowed := true }
def FnExactCastsOfUptoSaid : Prop := fnExactCastsOfUptoRow.holds Try.pinned (OpenSpec.upto fnExactCastsOfSpec)

/-- 'laws.FnExactClaimsText', WHERE WHAT IT READS IS OF BULK AT MOST 1048576: true; the input reads as it did. -/
def fnExactClaimsTextUptoRow : OpenClaim := { program := "ytidinhkaclaanaa", sum := "ad665885cb6e3bd6d4a1908c6c3c9d6cbaba5f5a1b068783693f11d093bdbc35", func := "loop.example/g01316/laws.FnExactClaimsText", spec := "fnExactClaimsText", inPlace := ["internal/abi.NoEscape", "internal/bytealg.MakeNoZero"], unfollowed := true, recurses := true, apart := false, narrowed := true }
def FnExactClaimsTextUptoSaid : Prop := fnExactClaimsTextUptoRow.holds Try.pinned (OpenSpec.upto fnExactClaimsTextSpec)

/-- 'laws.FnExactNeedlessClaims', WHERE WHAT IT READS IS OF BULK AT MOST 1048576: true; the input reads as it did. -/
def fnExactNeedlessClaimsUptoRow : OpenClaim := { program := "ytidinhkaclaanaa", sum := "ad665885cb6e3bd6d4a1908c6c3c9d6cbaba5f5a1b068783693f11d093bdbc35", func := "loop.example/g01316/laws.FnExactNeedlessClaims", spec := "fnExactNeedlessClaims", unfollowed := true, recurses := true, apart := false, narrowed := true }
def FnExactNeedlessClaimsUptoSaid : Prop := fnExactNeedlessClaimsUptoRow.holds Try.pinned (OpenSpec.upto fnExactNeedlessClaimsSpec)

/-- 'laws.FnExactClaimGroups', WHERE WHAT IT READS IS OF BULK AT MOST 1048576: true; the input reads as it did. -/
def fnExactClaimGroupsUptoRow : OpenClaim := { program := "ytidinhkaclaanaa", sum := "ad665885cb6e3bd6d4a1908c6c3c9d6cbaba5f5a1b068783693f11d093bdbc35", func := "loop.example/g01316/laws.FnExactClaimGroups", spec := "fnExactClaimGroups", unfollowed := true, recurses := true, apart := false, narrowed := true }
def FnExactClaimGroupsUptoSaid : Prop := fnExactClaimGroupsUptoRow.holds Try.pinned (OpenSpec.upto fnExactClaimGroupsSpec)

/-- 'laws.FnExactFewestLiars', WHERE WHAT IT READS IS OF BULK AT MOST 1048576: true; the input reads as it did. -/
def fnExactFewestLiarsUptoRow : OpenClaim := { program := "ytidinhkaclaanaa", sum := "ad665885cb6e3bd6d4a1908c6c3c9d6cbaba5f5a1b068783693f11d093bdbc35", func := "loop.example/g01316/laws.FnExactFewestLiars", spec := "fnExactFewestLiars", inPlace := ["internal/bytealg.CountString", "internal/bytealg.IndexByteString", "internal/bytealg.IndexString"], unfollowed := true, recurses := true, named := ["internal/bytealg.MaxLen"], apart := false, narrowed := true }
def FnExactFewestLiarsUptoSaid : Prop := fnExactFewestLiarsUptoRow.holds Try.pinned (OpenSpec.upto fnExactFewestLiarsSpec)

/-- 'laws.FnExactMostLiars', WHERE WHAT IT READS IS OF BULK AT MOST 1048576: true; the input reads as it did. -/
def fnExactMostLiarsUptoRow : OpenClaim := { program := "ytidinhkaclaanaa", sum := "ad665885cb6e3bd6d4a1908c6c3c9d6cbaba5f5a1b068783693f11d093bdbc35", func := "loop.example/g01316/laws.FnExactMostLiars", spec := "fnExactMostLiars", inPlace := ["internal/bytealg.CountString", "internal/bytealg.IndexByteString", "internal/bytealg.IndexString"], unfollowed := true, recurses := true, named := ["internal/bytealg.MaxLen"], apart := false, narrowed := true }
def FnExactMostLiarsUptoSaid : Prop := fnExactMostLiarsUptoRow.holds Try.pinned (OpenSpec.upto fnExactMostLiarsSpec)

end Rows
end Go.Proofs.Ytidinhkaclaanaa
