/-
  No cell of these rows narrows 'for every input' (looked for: loops, veiled, ifaces, maps, wideKeys, modest, calm, conditions, laid).
  DERIVED. THE GIVEN ROWS OF THIS SEAT. 14 by the template 'for every input the law returns true; each argument reads behind the call as it read before'; 0 by the template 'total and deterministic' (their statements: YtklmcfpgdfibnaaTotals.lean).
  GIVEN WITH THE SEED: the statements are not yours to turn. If you find one false, say at which input.
  Laid BY PROGRAM, IN A SANDBOX (cutbox-rows.mjs): the forced cells as the released guide's own fill.sh prints them over the translation 01b68e7ba5768b0d… (all of the seat's roots in one cut). By AI agents, Wed Nov 11 2026. No macro, syntax, notation, axiom, sorry.
-/
import Derived.Test.YtklmcfpgdfibnaaChecked
import GoSem.Claim
import GoSem.ClaimJoined
import GoSem.ClaimMapViews
import Derived.JoinedTies
import Derived.KernelRfl
namespace Go.Proofs.Ytklmcfpgdfibnaa
/- THE CELL 'sum', in the pinned program and in every row, IS THE sha256 OF THE DUMP (.gsa) THAT YtklmcfpgdfibnaaProg.lean LOADS. Nothing in Lean hashes anything: it is a label: what it is worth is what the hold of that sum in a sandbox is worth. -/
noncomputable def Try.pinned : Pinned := { name := "ytklmcfpgdfibnaa", sum := "01b68e7ba5768b0d24f0a334f1ca83674f0bb3afab799a9817d69a4935874536", checked := Try.checked }
namespace Rows
def none {H : Type} : Left H := { results := [], args := [] }

/-- 'laws.FnLeaks': WHATEVER THE INPUT: true; the input reads as it did. -/
def fnLeaksSpec : ChangeSpec := { name := "fnLeaks", fn := fun _ => fun
  | [d] => { results := [.lit (.bool true)], args := [d] }
  | _ => none }
def fnLeaksRow : OpenClaim := { program := "ytklmcfpgdfibnaa", sum := "01b68e7ba5768b0d24f0a334f1ca83674f0bb3afab799a9817d69a4935874536", func := "loop.example/g01412/laws.FnLeaks", spec := "fnLeaks", apart := false }
def FnLeaksSaid : Prop := fnLeaksRow.holds Try.pinned (OpenSpec.ofChange fnLeaksSpec)

/-- ITS FALSE NEIGHBOUR: 'it returns false'. Refute it at one input. -/
def fnLeaksWrong : ChangeSpec := { name := "fnLeaks", fn := fun _ => fun
  | [d] => { results := [.lit (.bool false)], args := [d] }
  | _ => none }
def FnLeaksWrongFalsely : Prop := fnLeaksRow.holds Try.pinned (OpenSpec.ofChange fnLeaksWrong)

/-- 'laws.FnCollected': WHATEVER THE INPUT: true; the input reads as it did. -/
def fnCollectedSpec : ChangeSpec := { name := "fnCollected", fn := fun _ => fun
  | [d] => { results := [.lit (.bool true)], args := [d] }
  | _ => none }
def fnCollectedRow : OpenClaim := { program := "ytklmcfpgdfibnaa", sum := "01b68e7ba5768b0d24f0a334f1ca83674f0bb3afab799a9817d69a4935874536", func := "loop.example/g01412/laws.FnCollected", spec := "fnCollected", recurses := true, apart := false }
def FnCollectedSaid : Prop := fnCollectedRow.holds Try.pinned (OpenSpec.ofChange fnCollectedSpec)

/-- ITS FALSE NEIGHBOUR: 'it returns false'. Refute it at one input. -/
def fnCollectedWrong : ChangeSpec := { name := "fnCollected", fn := fun _ => fun
  | [d] => { results := [.lit (.bool false)], args := [d] }
  | _ => none }
def FnCollectedWrongFalsely : Prop := fnCollectedRow.holds Try.pinned (OpenSpec.ofChange fnCollectedWrong)

/-- 'laws.FnRings': WHATEVER THE INPUT: true; the input reads as it did. -/
def fnRingsSpec : ChangeSpec := { name := "fnRings", fn := fun _ => fun
  | [d] => { results := [.lit (.bool true)], args := [d] }
  | _ => none }
def fnRingsRow : OpenClaim := { program := "ytklmcfpgdfibnaa", sum := "01b68e7ba5768b0d24f0a334f1ca83674f0bb3afab799a9817d69a4935874536", func := "loop.example/g01412/laws.FnRings", spec := "fnRings", recurses := true, apart := false }
def FnRingsSaid : Prop := fnRingsRow.holds Try.pinned (OpenSpec.ofChange fnRingsSpec)

/-- ITS FALSE NEIGHBOUR: 'it returns false'. Refute it at one input. -/
def fnRingsWrong : ChangeSpec := { name := "fnRings", fn := fun _ => fun
  | [d] => { results := [.lit (.bool false)], args := [d] }
  | _ => none }
def FnRingsWrongFalsely : Prop := fnRingsRow.holds Try.pinned (OpenSpec.ofChange fnRingsWrong)

/-- 'laws.FnLedgers': WHATEVER THE INPUT: true; the input reads as it did. -/
def fnLedgersSpec : ChangeSpec := { name := "fnLedgers", fn := fun _ => fun
  | [d] => { results := [.lit (.bool true)], args := [d] }
  | _ => none }
def fnLedgersRow : OpenClaim := { program := "ytklmcfpgdfibnaa", sum := "01b68e7ba5768b0d24f0a334f1ca83674f0bb3afab799a9817d69a4935874536", func := "loop.example/g01412/laws.FnLedgers", spec := "fnLedgers", apart := false }
def FnLedgersSaid : Prop := fnLedgersRow.holds Try.pinned (OpenSpec.ofChange fnLedgersSpec)

/-- ITS FALSE NEIGHBOUR: 'it returns false'. Refute it at one input. -/
def fnLedgersWrong : ChangeSpec := { name := "fnLedgers", fn := fun _ => fun
  | [d] => { results := [.lit (.bool false)], args := [d] }
  | _ => none }
def FnLedgersWrongFalsely : Prop := fnLedgersRow.holds Try.pinned (OpenSpec.ofChange fnLedgersWrong)

/-- 'laws.FnReaches': WHATEVER THE INPUT: true; the input reads as it did. -/
def fnReachesSpec : ChangeSpec := { name := "fnReaches", fn := fun _ => fun
  | [d] => { results := [.lit (.bool true)], args := [d] }
  | _ => none }
def fnReachesRow : OpenClaim := { program := "ytklmcfpgdfibnaa", sum := "01b68e7ba5768b0d24f0a334f1ca83674f0bb3afab799a9817d69a4935874536", func := "loop.example/g01412/laws.FnReaches", spec := "fnReaches", apart := false }
def FnReachesSaid : Prop := fnReachesRow.holds Try.pinned (OpenSpec.ofChange fnReachesSpec)

/-- ITS FALSE NEIGHBOUR: 'it returns false'. Refute it at one input. -/
def fnReachesWrong : ChangeSpec := { name := "fnReaches", fn := fun _ => fun
  | [d] => { results := [.lit (.bool false)], args := [d] }
  | _ => none }
def FnReachesWrongFalsely : Prop := fnReachesRow.holds Try.pinned (OpenSpec.ofChange fnReachesWrong)

/-- 'laws.FnWays': WHATEVER THE INPUT: true; the input reads as it did. -/
def fnWaysSpec : ChangeSpec := { name := "fnWays", fn := fun _ => fun
  | [d] => { results := [.lit (.bool true)], args := [d] }
  | _ => none }
def fnWaysRow : OpenClaim := { program := "ytklmcfpgdfibnaa", sum := "01b68e7ba5768b0d24f0a334f1ca83674f0bb3afab799a9817d69a4935874536", func := "loop.example/g01412/laws.FnWays", spec := "fnWays", apart := false }
def FnWaysSaid : Prop := fnWaysRow.holds Try.pinned (OpenSpec.ofChange fnWaysSpec)

/-- ITS FALSE NEIGHBOUR: 'it returns false'. Refute it at one input. -/
def fnWaysWrong : ChangeSpec := { name := "fnWays", fn := fun _ => fun
  | [d] => { results := [.lit (.bool false)], args := [d] }
  | _ => none }
def FnWaysWrongFalsely : Prop := fnWaysRow.holds Try.pinned (OpenSpec.ofChange fnWaysWrong)

/-- 'laws.FnTrials': WHATEVER THE INPUT: true; the input reads as it did. -/
def fnTrialsSpec : ChangeSpec := { name := "fnTrials", fn := fun _ => fun
  | [d] => { results := [.lit (.bool true)], args := [d] }
  | _ => none }
def fnTrialsRow : OpenClaim := { program := "ytklmcfpgdfibnaa", sum := "01b68e7ba5768b0d24f0a334f1ca83674f0bb3afab799a9817d69a4935874536", func := "loop.example/g01412/laws.FnTrials", spec := "fnTrials", recurses := true, apart := false }
def FnTrialsSaid : Prop := fnTrialsRow.holds Try.pinned (OpenSpec.ofChange fnTrialsSpec)

/-- ITS FALSE NEIGHBOUR: 'it returns false'. Refute it at one input. -/
def fnTrialsWrong : ChangeSpec := { name := "fnTrials", fn := fun _ => fun
  | [d] => { results := [.lit (.bool false)], args := [d] }
  | _ => none }
def FnTrialsWrongFalsely : Prop := fnTrialsRow.holds Try.pinned (OpenSpec.ofChange fnTrialsWrong)

/-- 'laws.FnGroups': WHATEVER THE INPUT: true; the input reads as it did. -/
def fnGroupsSpec : ChangeSpec := { name := "fnGroups", fn := fun _ => fun
  | [d] => { results := [.lit (.bool true)], args := [d] }
  | _ => none }
def fnGroupsRow : OpenClaim := { program := "ytklmcfpgdfibnaa", sum := "01b68e7ba5768b0d24f0a334f1ca83674f0bb3afab799a9817d69a4935874536", func := "loop.example/g01412/laws.FnGroups", spec := "fnGroups", apart := false }
def FnGroupsSaid : Prop := fnGroupsRow.holds Try.pinned (OpenSpec.ofChange fnGroupsSpec)

/-- ITS FALSE NEIGHBOUR: 'it returns false'. Refute it at one input. -/
def fnGroupsWrong : ChangeSpec := { name := "fnGroups", fn := fun _ => fun
  | [d] => { results := [.lit (.bool false)], args := [d] }
  | _ => none }
def FnGroupsWrongFalsely : Prop := fnGroupsRow.holds Try.pinned (OpenSpec.ofChange fnGroupsWrong)

/-- 'laws.FnRetains': WHATEVER THE INPUT: true; the input reads as it did. -/
def fnRetainsSpec : ChangeSpec := { name := "fnRetains", fn := fun _ => fun
  | [d] => { results := [.lit (.bool true)], args := [d] }
  | _ => none }
def fnRetainsRow : OpenClaim := { program := "ytklmcfpgdfibnaa", sum := "01b68e7ba5768b0d24f0a334f1ca83674f0bb3afab799a9817d69a4935874536", func := "loop.example/g01412/laws.FnRetains", spec := "fnRetains", apart := false }
def FnRetainsSaid : Prop := fnRetainsRow.holds Try.pinned (OpenSpec.ofChange fnRetainsSpec)

/-- ITS FALSE NEIGHBOUR: 'it returns false'. Refute it at one input. -/
def fnRetainsWrong : ChangeSpec := { name := "fnRetains", fn := fun _ => fun
  | [d] => { results := [.lit (.bool false)], args := [d] }
  | _ => none }
def FnRetainsWrongFalsely : Prop := fnRetainsRow.holds Try.pinned (OpenSpec.ofChange fnRetainsWrong)

/-- 'laws.FnNew': WHATEVER THE INPUT: true; the input reads as it did. -/
def fnNewSpec : ChangeSpec := { name := "fnNew", fn := fun _ => fun
  | [d] => { results := [.lit (.bool true)], args := [d] }
  | _ => none }
def fnNewRow : OpenClaim := { program := "ytklmcfpgdfibnaa", sum := "01b68e7ba5768b0d24f0a334f1ca83674f0bb3afab799a9817d69a4935874536", func := "loop.example/g01412/laws.FnNew", spec := "fnNew", recurses := true, apart := false }
def FnNewSaid : Prop := fnNewRow.holds Try.pinned (OpenSpec.ofChange fnNewSpec)

/-- ITS FALSE NEIGHBOUR: 'it returns false'. Refute it at one input. -/
def fnNewWrong : ChangeSpec := { name := "fnNew", fn := fun _ => fun
  | [d] => { results := [.lit (.bool false)], args := [d] }
  | _ => none }
def FnNewWrongFalsely : Prop := fnNewRow.holds Try.pinned (OpenSpec.ofChange fnNewWrong)

/-- 'laws.FnLets': WHATEVER THE INPUT: true; the input reads as it did. -/
def fnLetsSpec : ChangeSpec := { name := "fnLets", fn := fun _ => fun
  | [d] => { results := [.lit (.bool true)], args := [d] }
  | _ => none }
def fnLetsRow : OpenClaim := { program := "ytklmcfpgdfibnaa", sum := "01b68e7ba5768b0d24f0a334f1ca83674f0bb3afab799a9817d69a4935874536", func := "loop.example/g01412/laws.FnLets", spec := "fnLets", recurses := true, apart := false }
def FnLetsSaid : Prop := fnLetsRow.holds Try.pinned (OpenSpec.ofChange fnLetsSpec)

/-- ITS FALSE NEIGHBOUR: 'it returns false'. Refute it at one input. -/
def fnLetsWrong : ChangeSpec := { name := "fnLets", fn := fun _ => fun
  | [d] => { results := [.lit (.bool false)], args := [d] }
  | _ => none }
def FnLetsWrongFalsely : Prop := fnLetsRow.holds Try.pinned (OpenSpec.ofChange fnLetsWrong)

/-- 'laws.FnParts': WHATEVER THE INPUT: true; the input reads as it did. -/
def fnPartsSpec : ChangeSpec := { name := "fnParts", fn := fun _ => fun
  | [d] => { results := [.lit (.bool true)], args := [d] }
  | _ => none }
def fnPartsRow : OpenClaim := { program := "ytklmcfpgdfibnaa", sum := "01b68e7ba5768b0d24f0a334f1ca83674f0bb3afab799a9817d69a4935874536", func := "loop.example/g01412/laws.FnParts", spec := "fnParts", recurses := true, apart := false }
def FnPartsSaid : Prop := fnPartsRow.holds Try.pinned (OpenSpec.ofChange fnPartsSpec)

/-- ITS FALSE NEIGHBOUR: 'it returns false'. Refute it at one input. -/
def fnPartsWrong : ChangeSpec := { name := "fnParts", fn := fun _ => fun
  | [d] => { results := [.lit (.bool false)], args := [d] }
  | _ => none }
def FnPartsWrongFalsely : Prop := fnPartsRow.holds Try.pinned (OpenSpec.ofChange fnPartsWrong)

/-- 'laws.FnRight': WHATEVER THE INPUT: true; the input reads as it did. -/
def fnRightSpec : ChangeSpec := { name := "fnRight", fn := fun _ => fun
  | [d] => { results := [.lit (.bool true)], args := [d] }
  | _ => none }
def fnRightRow : OpenClaim := { program := "ytklmcfpgdfibnaa", sum := "01b68e7ba5768b0d24f0a334f1ca83674f0bb3afab799a9817d69a4935874536", func := "loop.example/g01412/laws.FnRight", spec := "fnRight", recurses := true, apart := false }
def FnRightSaid : Prop := fnRightRow.holds Try.pinned (OpenSpec.ofChange fnRightSpec)

/-- ITS FALSE NEIGHBOUR: 'it returns false'. Refute it at one input. -/
def fnRightWrong : ChangeSpec := { name := "fnRight", fn := fun _ => fun
  | [d] => { results := [.lit (.bool false)], args := [d] }
  | _ => none }
def FnRightWrongFalsely : Prop := fnRightRow.holds Try.pinned (OpenSpec.ofChange fnRightWrong)

/-- 'laws.FnKept': WHATEVER THE INPUT: true; the input reads as it did. -/
def fnKeptSpec : ChangeSpec := { name := "fnKept", fn := fun _ => fun
  | [d] => { results := [.lit (.bool true)], args := [d] }
  | _ => none }
def fnKeptRow : OpenClaim := { program := "ytklmcfpgdfibnaa", sum := "01b68e7ba5768b0d24f0a334f1ca83674f0bb3afab799a9817d69a4935874536", func := "loop.example/g01412/laws.FnKept", spec := "fnKept", recurses := true, apart := false }
def FnKeptSaid : Prop := fnKeptRow.holds Try.pinned (OpenSpec.ofChange fnKeptSpec)

/-- ITS FALSE NEIGHBOUR: 'it returns false'. Refute it at one input. -/
def fnKeptWrong : ChangeSpec := { name := "fnKept", fn := fun _ => fun
  | [d] => { results := [.lit (.bool false)], args := [d] }
  | _ => none }
def FnKeptWrongFalsely : Prop := fnKeptRow.holds Try.pinned (OpenSpec.ofChange fnKeptWrong)

/- THE SECOND FORM. 'bulk': how many values and letters a reading holds, each counted each time it is reached (what is shared counts as often as it is met; a slice's spare places count too). A statement '..UptoSaid' is the law's where the arguments, and the package variables that the reading takes, are together of bulk at most 1048576: NARROWER than '..Said'. Prove '..Said' where nothing that the law and all that it calls make is longer than what came in: it says more and counts as full. Else prove '..UptoSaid'. A law counts once. -/
mutual
def uptoBulk {H : Type} : DataW H → Nat
  | .lit (.string bytes) => bytes.length + 1
  | .lit _ => 1
  | .nil => 1
  | .ptr d => uptoBulk d + 1
  | .slice elems spare => uptoBulkAll elems + uptoBulkAll spare + 1
  | .agg parts => uptoBulkAll parts + 1
  | .iface _ d => uptoBulk d + 1
  | .map entries => uptoBulkEntries entries + 1
  | .held _ => 1
def uptoBulkAll {H : Type} : List (DataW H) → Nat
  | [] => 0
  | d :: r => uptoBulk d + uptoBulkAll r
def uptoBulkEntries {H : Type} : List (Lit × DataW H) → Nat
  | [] => 0
  | x :: r => uptoBulkEntry x + uptoBulkEntries r
def uptoBulkEntry {H : Type} : Lit × DataW H → Nat
  | (.string bytes, d) => bytes.length + uptoBulk d + 1
  | (_, d) => uptoBulk d + 1
 end
def uptoSmall : (H : Type) → List (DataW H) → Bool := fun _ ds => decide (uptoBulkAll ds ≤ 1048576)
def OpenSpec.upto (s : _root_.Go.ChangeSpec) : _root_.Go.OpenSpec := { _root_.Go.OpenSpec.ofChange s with cond := some uptoSmall }

/-- 'laws.FnLeaks', WHERE WHAT IT READS IS OF BULK AT MOST 1048576: true; the input reads as it did. -/
def fnLeaksUptoRow : OpenClaim := { program := "ytklmcfpgdfibnaa", sum := "01b68e7ba5768b0d24f0a334f1ca83674f0bb3afab799a9817d69a4935874536", func := "loop.example/g01412/laws.FnLeaks", spec := "fnLeaks", apart := false, narrowed := true }
def FnLeaksUptoSaid : Prop := fnLeaksUptoRow.holds Try.pinned (OpenSpec.upto fnLeaksSpec)

/-- 'laws.FnCollected', WHERE WHAT IT READS IS OF BULK AT MOST 1048576: true; the input reads as it did. -/
def fnCollectedUptoRow : OpenClaim := { program := "ytklmcfpgdfibnaa", sum := "01b68e7ba5768b0d24f0a334f1ca83674f0bb3afab799a9817d69a4935874536", func := "loop.example/g01412/laws.FnCollected", spec := "fnCollected", recurses := true, apart := false, narrowed := true }
def FnCollectedUptoSaid : Prop := fnCollectedUptoRow.holds Try.pinned (OpenSpec.upto fnCollectedSpec)

/-- 'laws.FnRings', WHERE WHAT IT READS IS OF BULK AT MOST 1048576: true; the input reads as it did. -/
def fnRingsUptoRow : OpenClaim := { program := "ytklmcfpgdfibnaa", sum := "01b68e7ba5768b0d24f0a334f1ca83674f0bb3afab799a9817d69a4935874536", func := "loop.example/g01412/laws.FnRings", spec := "fnRings", recurses := true, apart := false, narrowed := true }
def FnRingsUptoSaid : Prop := fnRingsUptoRow.holds Try.pinned (OpenSpec.upto fnRingsSpec)

/-- 'laws.FnLedgers', WHERE WHAT IT READS IS OF BULK AT MOST 1048576: true; the input reads as it did. -/
def fnLedgersUptoRow : OpenClaim := { program := "ytklmcfpgdfibnaa", sum := "01b68e7ba5768b0d24f0a334f1ca83674f0bb3afab799a9817d69a4935874536", func := "loop.example/g01412/laws.FnLedgers", spec := "fnLedgers", apart := false, narrowed := true }
def FnLedgersUptoSaid : Prop := fnLedgersUptoRow.holds Try.pinned (OpenSpec.upto fnLedgersSpec)

/-- 'laws.FnReaches', WHERE WHAT IT READS IS OF BULK AT MOST 1048576: true; the input reads as it did. -/
def fnReachesUptoRow : OpenClaim := { program := "ytklmcfpgdfibnaa", sum := "01b68e7ba5768b0d24f0a334f1ca83674f0bb3afab799a9817d69a4935874536", func := "loop.example/g01412/laws.FnReaches", spec := "fnReaches", apart := false, narrowed := true }
def FnReachesUptoSaid : Prop := fnReachesUptoRow.holds Try.pinned (OpenSpec.upto fnReachesSpec)

/-- 'laws.FnWays', WHERE WHAT IT READS IS OF BULK AT MOST 1048576: true; the input reads as it did. -/
def fnWaysUptoRow : OpenClaim := { program := "ytklmcfpgdfibnaa", sum := "01b68e7ba5768b0d24f0a334f1ca83674f0bb3afab799a9817d69a4935874536", func := "loop.example/g01412/laws.FnWays", spec := "fnWays", apart := false, narrowed := true }
def FnWaysUptoSaid : Prop := fnWaysUptoRow.holds Try.pinned (OpenSpec.upto fnWaysSpec)

/-- 'laws.FnTrials', WHERE WHAT IT READS IS OF BULK AT MOST 1048576: true; the input reads as it did. -/
def fnTrialsUptoRow : OpenClaim := { program := "ytklmcfpgdfibnaa", sum := "01b68e7ba5768b0d24f0a334f1ca83674f0bb3afab799a9817d69a4935874536", func := "loop.example/g01412/laws.FnTrials", spec := "fnTrials", recurses := true, apart := false, narrowed := true }
def FnTrialsUptoSaid : Prop := fnTrialsUptoRow.holds Try.pinned (OpenSpec.upto fnTrialsSpec)

/-- 'laws.FnGroups', WHERE WHAT IT READS IS OF BULK AT MOST 1048576: true; the input reads as it did. -/
def fnGroupsUptoRow : OpenClaim := { program := "ytklmcfpgdfibnaa", sum := "01b68e7ba5768b0d24f0a334f1ca83674f0bb3afab799a9817d69a4935874536", func := "loop.example/g01412/laws.FnGroups", spec := "fnGroups", apart := false, narrowed := true }
def FnGroupsUptoSaid : Prop := fnGroupsUptoRow.holds Try.pinned (OpenSpec.upto fnGroupsSpec)

/-- 'laws.FnRetains', WHERE WHAT IT READS IS OF BULK AT MOST 1048576: true; the input reads as it did. -/
def fnRetainsUptoRow : OpenClaim := { program := "ytklmcfpgdfibnaa", sum := "01b68e7ba5768b0d24f0a334f1ca83674f0bb3afab799a9817d69a4935874536", func := "loop.example/g01412/laws.FnRetains", spec := "fnRetains", apart := false, narrowed := true }
def FnRetainsUptoSaid : Prop := fnRetainsUptoRow.holds Try.pinned (OpenSpec.upto fnRetainsSpec)

/-- 'laws.FnNew', WHERE WHAT IT READS IS OF BULK AT MOST 1048576: true; the input reads as it did. -/
def fnNewUptoRow : OpenClaim := { program := "ytklmcfpgdfibnaa", sum := "01b68e7ba5768b0d24f0a334f1ca83674f0bb3afab799a9817d69a4935874536", func := "loop.example/g01412/laws.FnNew", spec := "fnNew", recurses := true, apart := false, narrowed := true }
def FnNewUptoSaid : Prop := fnNewUptoRow.holds Try.pinned (OpenSpec.upto fnNewSpec)

/-- 'laws.FnLets', WHERE WHAT IT READS IS OF BULK AT MOST 1048576: true; the input reads as it did. -/
def fnLetsUptoRow : OpenClaim := { program := "ytklmcfpgdfibnaa", sum := "01b68e7ba5768b0d24f0a334f1ca83674f0bb3afab799a9817d69a4935874536", func := "loop.example/g01412/laws.FnLets", spec := "fnLets", recurses := true, apart := false, narrowed := true }
def FnLetsUptoSaid : Prop := fnLetsUptoRow.holds Try.pinned (OpenSpec.upto fnLetsSpec)

/-- 'laws.FnParts', WHERE WHAT IT READS IS OF BULK AT MOST 1048576: true; the input reads as it did. -/
def fnPartsUptoRow : OpenClaim := { program := "ytklmcfpgdfibnaa", sum := "01b68e7ba5768b0d24f0a334f1ca83674f0bb3afab799a9817d69a4935874536", func := "loop.example/g01412/laws.FnParts", spec := "fnParts", recurses := true, apart := false, narrowed := true }
def FnPartsUptoSaid : Prop := fnPartsUptoRow.holds Try.pinned (OpenSpec.upto fnPartsSpec)

/-- 'laws.FnRight', WHERE WHAT IT READS IS OF BULK AT MOST 1048576: true; the input reads as it did. -/
def fnRightUptoRow : OpenClaim := { program := "ytklmcfpgdfibnaa", sum := "01b68e7ba5768b0d24f0a334f1ca83674f0bb3afab799a9817d69a4935874536", func := "loop.example/g01412/laws.FnRight", spec := "fnRight", recurses := true, apart := false, narrowed := true }
def FnRightUptoSaid : Prop := fnRightUptoRow.holds Try.pinned (OpenSpec.upto fnRightSpec)

/-- 'laws.FnKept', WHERE WHAT IT READS IS OF BULK AT MOST 1048576: true; the input reads as it did. -/
def fnKeptUptoRow : OpenClaim := { program := "ytklmcfpgdfibnaa", sum := "01b68e7ba5768b0d24f0a334f1ca83674f0bb3afab799a9817d69a4935874536", func := "loop.example/g01412/laws.FnKept", spec := "fnKept", recurses := true, apart := false, narrowed := true }
def FnKeptUptoSaid : Prop := fnKeptUptoRow.holds Try.pinned (OpenSpec.upto fnKeptSpec)

end Rows
end Go.Proofs.Ytklmcfpgdfibnaa
