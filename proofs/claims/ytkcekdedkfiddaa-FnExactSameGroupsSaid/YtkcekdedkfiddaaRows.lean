/-
  No cell of these rows narrows 'for every input' (looked for: loops, veiled, ifaces, maps, wideKeys, modest, calm, conditions, laid).
  DERIVED. THE GIVEN ROWS OF THIS SEAT. 12 by the template 'for every input the law returns true; each argument reads behind the call as it read before'; 0 by the template 'total and deterministic' (their statements: YtkcekdedkfiddaaTotals.lean).
  GIVEN WITH THE SEED: the statements are not yours to turn. If you find one false, say at which input.
  Laid BY PROGRAM, IN A SANDBOX (cutbox-rows.mjs): the forced cells as the released guide's own fill.sh prints them over the translation 0974ad490303334d… (all of the seat's roots in one cut). By AI agents, Wed Nov 11 2026. No macro, syntax, notation, axiom, sorry.
-/
import Derived.Test.YtkcekdedkfiddaaChecked
import GoSem.Claim
import GoSem.ClaimJoined
import GoSem.ClaimMapViews
import Derived.JoinedTies
import Derived.KernelRfl
namespace Go.Proofs.Ytkcekdedkfiddaa
/- THE CELL 'sum', in the pinned program and in every row, IS THE sha256 OF THE DUMP (.gsa) THAT YtkcekdedkfiddaaProg.lean LOADS. Nothing in Lean hashes anything: it is a label: what it is worth is what the hold of that sum in a sandbox is worth. -/
noncomputable def Try.pinned : Pinned := { name := "ytkcekdedkfiddaa", sum := "0974ad490303334d11eca36bf64c06f8e8bf2f694167bec067be26bd5d62aaba", checked := Try.checked }
namespace Rows
def none {H : Type} : Left H := { results := [], args := [] }

/-- 'laws.FnExactLeakWord': WHATEVER THE INPUT: true; the input reads as it did. -/
def fnExactLeakWordSpec : ChangeSpec := { name := "fnExactLeakWord", fn := fun _ => fun
  | [d] => { results := [.lit (.bool true)], args := [d] }
  | _ => none }
def fnExactLeakWordRow : OpenClaim := { program := "ytkcekdedkfiddaa", sum := "0974ad490303334d11eca36bf64c06f8e8bf2f694167bec067be26bd5d62aaba", func := "loop.example/g01412/laws.FnExactLeakWord", spec := "fnExactLeakWord", apart := false }
def FnExactLeakWordSaid : Prop := fnExactLeakWordRow.holds Try.pinned (OpenSpec.ofChange fnExactLeakWordSpec)

/-- ITS FALSE NEIGHBOUR: 'it returns false'. Refute it at one input. -/
def fnExactLeakWordWrong : ChangeSpec := { name := "fnExactLeakWord", fn := fun _ => fun
  | [d] => { results := [.lit (.bool false)], args := [d] }
  | _ => none }
def FnExactLeakWordWrongFalsely : Prop := fnExactLeakWordRow.holds Try.pinned (OpenSpec.ofChange fnExactLeakWordWrong)

/-- 'laws.FnExactHeldBy': WHATEVER THE INPUT: true; the input reads as it did. -/
def fnExactHeldBySpec : ChangeSpec := { name := "fnExactHeldBy", fn := fun _ => fun
  | [d] => { results := [.lit (.bool true)], args := [d] }
  | _ => none }
def fnExactHeldByRow : OpenClaim := { program := "ytkcekdedkfiddaa", sum := "0974ad490303334d11eca36bf64c06f8e8bf2f694167bec067be26bd5d62aaba", func := "loop.example/g01412/laws.FnExactHeldBy", spec := "fnExactHeldBy", apart := false }
def FnExactHeldBySaid : Prop := fnExactHeldByRow.holds Try.pinned (OpenSpec.ofChange fnExactHeldBySpec)

/-- ITS FALSE NEIGHBOUR: 'it returns false'. Refute it at one input. -/
def fnExactHeldByWrong : ChangeSpec := { name := "fnExactHeldBy", fn := fun _ => fun
  | [d] => { results := [.lit (.bool false)], args := [d] }
  | _ => none }
def FnExactHeldByWrongFalsely : Prop := fnExactHeldByRow.holds Try.pinned (OpenSpec.ofChange fnExactHeldByWrong)

/-- 'laws.FnExactLiveOf': WHATEVER THE INPUT: true; the input reads as it did. -/
def fnExactLiveOfSpec : ChangeSpec := { name := "fnExactLiveOf", fn := fun _ => fun
  | [d] => { results := [.lit (.bool true)], args := [d] }
  | _ => none }
def fnExactLiveOfRow : OpenClaim := { program := "ytkcekdedkfiddaa", sum := "0974ad490303334d11eca36bf64c06f8e8bf2f694167bec067be26bd5d62aaba", func := "loop.example/g01412/laws.FnExactLiveOf", spec := "fnExactLiveOf", apart := false }
def FnExactLiveOfSaid : Prop := fnExactLiveOfRow.holds Try.pinned (OpenSpec.ofChange fnExactLiveOfSpec)

/-- ITS FALSE NEIGHBOUR: 'it returns false'. Refute it at one input. -/
def fnExactLiveOfWrong : ChangeSpec := { name := "fnExactLiveOf", fn := fun _ => fun
  | [d] => { results := [.lit (.bool false)], args := [d] }
  | _ => none }
def FnExactLiveOfWrongFalsely : Prop := fnExactLiveOfRow.holds Try.pinned (OpenSpec.ofChange fnExactLiveOfWrong)

/-- 'laws.FnExactRootedBy': WHATEVER THE INPUT: true; the input reads as it did. -/
def fnExactRootedBySpec : ChangeSpec := { name := "fnExactRootedBy", fn := fun _ => fun
  | [d] => { results := [.lit (.bool true)], args := [d] }
  | _ => none }
def fnExactRootedByRow : OpenClaim := { program := "ytkcekdedkfiddaa", sum := "0974ad490303334d11eca36bf64c06f8e8bf2f694167bec067be26bd5d62aaba", func := "loop.example/g01412/laws.FnExactRootedBy", spec := "fnExactRootedBy", apart := false }
def FnExactRootedBySaid : Prop := fnExactRootedByRow.holds Try.pinned (OpenSpec.ofChange fnExactRootedBySpec)

/-- ITS FALSE NEIGHBOUR: 'it returns false'. Refute it at one input. -/
def fnExactRootedByWrong : ChangeSpec := { name := "fnExactRootedBy", fn := fun _ => fun
  | [d] => { results := [.lit (.bool false)], args := [d] }
  | _ => none }
def FnExactRootedByWrongFalsely : Prop := fnExactRootedByRow.holds Try.pinned (OpenSpec.ofChange fnExactRootedByWrong)

/-- 'laws.FnExactSpeakable': WHATEVER THE INPUT: true; the input reads as it did. -/
def fnExactSpeakableSpec : ChangeSpec := { name := "fnExactSpeakable", fn := fun _ => fun
  | [d] => { results := [.lit (.bool true)], args := [d] }
  | _ => none }
def fnExactSpeakableRow : OpenClaim := { program := "ytkcekdedkfiddaa", sum := "0974ad490303334d11eca36bf64c06f8e8bf2f694167bec067be26bd5d62aaba", func := "loop.example/g01412/laws.FnExactSpeakable", spec := "fnExactSpeakable", apart := false }
def FnExactSpeakableSaid : Prop := fnExactSpeakableRow.holds Try.pinned (OpenSpec.ofChange fnExactSpeakableSpec)

/-- ITS FALSE NEIGHBOUR: 'it returns false'. Refute it at one input. -/
def fnExactSpeakableWrong : ChangeSpec := { name := "fnExactSpeakable", fn := fun _ => fun
  | [d] => { results := [.lit (.bool false)], args := [d] }
  | _ => none }
def FnExactSpeakableWrongFalsely : Prop := fnExactSpeakableRow.holds Try.pinned (OpenSpec.ofChange fnExactSpeakableWrong)

/-- 'laws.FnExactSiteName': WHATEVER THE INPUT: true; the input reads as it did. -/
def fnExactSiteNameSpec : ChangeSpec := { name := "fnExactSiteName", fn := fun _ => fun
  | [d1, d2] => { results := [.lit (.bool true)], args := [d1, d2] }
  | _ => none }
def fnExactSiteNameRow : OpenClaim := { program := "ytkcekdedkfiddaa", sum := "0974ad490303334d11eca36bf64c06f8e8bf2f694167bec067be26bd5d62aaba", func := "loop.example/g01412/laws.FnExactSiteName", spec := "fnExactSiteName", apart := false }
def FnExactSiteNameSaid : Prop := fnExactSiteNameRow.holds Try.pinned (OpenSpec.ofChange fnExactSiteNameSpec)

/-- ITS FALSE NEIGHBOUR: 'it returns false'. Refute it at one input. -/
def fnExactSiteNameWrong : ChangeSpec := { name := "fnExactSiteName", fn := fun _ => fun
  | [d1, d2] => { results := [.lit (.bool false)], args := [d1, d2] }
  | _ => none }
def FnExactSiteNameWrongFalsely : Prop := fnExactSiteNameRow.holds Try.pinned (OpenSpec.ofChange fnExactSiteNameWrong)

/-- 'laws.FnExactSamePen': WHATEVER THE INPUT: true; the input reads as it did. -/
def fnExactSamePenSpec : ChangeSpec := { name := "fnExactSamePen", fn := fun _ => fun
  | [d1, d2] => { results := [.lit (.bool true)], args := [d1, d2] }
  | _ => none }
def fnExactSamePenRow : OpenClaim := { program := "ytkcekdedkfiddaa", sum := "0974ad490303334d11eca36bf64c06f8e8bf2f694167bec067be26bd5d62aaba", func := "loop.example/g01412/laws.FnExactSamePen", spec := "fnExactSamePen", apart := false }
def FnExactSamePenSaid : Prop := fnExactSamePenRow.holds Try.pinned (OpenSpec.ofChange fnExactSamePenSpec)

/-- ITS FALSE NEIGHBOUR: 'it returns false'. Refute it at one input. -/
def fnExactSamePenWrong : ChangeSpec := { name := "fnExactSamePen", fn := fun _ => fun
  | [d1, d2] => { results := [.lit (.bool false)], args := [d1, d2] }
  | _ => none }
def FnExactSamePenWrongFalsely : Prop := fnExactSamePenRow.holds Try.pinned (OpenSpec.ofChange fnExactSamePenWrong)

/-- 'laws.FnExactSameOps': WHATEVER THE INPUT: true; the input reads as it did. -/
def fnExactSameOpsSpec : ChangeSpec := { name := "fnExactSameOps", fn := fun _ => fun
  | [d1, d2] => { results := [.lit (.bool true)], args := [d1, d2] }
  | _ => none }
def fnExactSameOpsRow : OpenClaim := { program := "ytkcekdedkfiddaa", sum := "0974ad490303334d11eca36bf64c06f8e8bf2f694167bec067be26bd5d62aaba", func := "loop.example/g01412/laws.FnExactSameOps", spec := "fnExactSameOps", apart := false }
def FnExactSameOpsSaid : Prop := fnExactSameOpsRow.holds Try.pinned (OpenSpec.ofChange fnExactSameOpsSpec)

/-- ITS FALSE NEIGHBOUR: 'it returns false'. Refute it at one input. -/
def fnExactSameOpsWrong : ChangeSpec := { name := "fnExactSameOps", fn := fun _ => fun
  | [d1, d2] => { results := [.lit (.bool false)], args := [d1, d2] }
  | _ => none }
def FnExactSameOpsWrongFalsely : Prop := fnExactSameOpsRow.holds Try.pinned (OpenSpec.ofChange fnExactSameOpsWrong)

/-- 'laws.FnExactSameRows': WHATEVER THE INPUT: true; the input reads as it did. -/
def fnExactSameRowsSpec : ChangeSpec := { name := "fnExactSameRows", fn := fun _ => fun
  | [d1, d2] => { results := [.lit (.bool true)], args := [d1, d2] }
  | _ => none }
def fnExactSameRowsRow : OpenClaim := { program := "ytkcekdedkfiddaa", sum := "0974ad490303334d11eca36bf64c06f8e8bf2f694167bec067be26bd5d62aaba", func := "loop.example/g01412/laws.FnExactSameRows", spec := "fnExactSameRows", apart := false }
def FnExactSameRowsSaid : Prop := fnExactSameRowsRow.holds Try.pinned (OpenSpec.ofChange fnExactSameRowsSpec)

/-- ITS FALSE NEIGHBOUR: 'it returns false'. Refute it at one input. -/
def fnExactSameRowsWrong : ChangeSpec := { name := "fnExactSameRows", fn := fun _ => fun
  | [d1, d2] => { results := [.lit (.bool false)], args := [d1, d2] }
  | _ => none }
def FnExactSameRowsWrongFalsely : Prop := fnExactSameRowsRow.holds Try.pinned (OpenSpec.ofChange fnExactSameRowsWrong)

/-- 'laws.FnExactSameGroups': WHATEVER THE INPUT: true; the input reads as it did. -/
def fnExactSameGroupsSpec : ChangeSpec := { name := "fnExactSameGroups", fn := fun _ => fun
  | [d1, d2] => { results := [.lit (.bool true)], args := [d1, d2] }
  | _ => none }
def fnExactSameGroupsRow : OpenClaim := { program := "ytkcekdedkfiddaa", sum := "0974ad490303334d11eca36bf64c06f8e8bf2f694167bec067be26bd5d62aaba", func := "loop.example/g01412/laws.FnExactSameGroups", spec := "fnExactSameGroups", apart := false }
def FnExactSameGroupsSaid : Prop := fnExactSameGroupsRow.holds Try.pinned (OpenSpec.ofChange fnExactSameGroupsSpec)

/-- ITS FALSE NEIGHBOUR: 'it returns false'. Refute it at one input. -/
def fnExactSameGroupsWrong : ChangeSpec := { name := "fnExactSameGroups", fn := fun _ => fun
  | [d1, d2] => { results := [.lit (.bool false)], args := [d1, d2] }
  | _ => none }
def FnExactSameGroupsWrongFalsely : Prop := fnExactSameGroupsRow.holds Try.pinned (OpenSpec.ofChange fnExactSameGroupsWrong)

/-- 'laws.FnExactExternals': WHATEVER THE INPUT: true; the input reads as it did. -/
def fnExactExternalsSpec : ChangeSpec := { name := "fnExactExternals", fn := fun _ => fun
  | [d] => { results := [.lit (.bool true)], args := [d] }
  | _ => none }
def fnExactExternalsRow : OpenClaim := { program := "ytkcekdedkfiddaa", sum := "0974ad490303334d11eca36bf64c06f8e8bf2f694167bec067be26bd5d62aaba", func := "loop.example/g01412/laws.FnExactExternals", spec := "fnExactExternals", apart := false }
def FnExactExternalsSaid : Prop := fnExactExternalsRow.holds Try.pinned (OpenSpec.ofChange fnExactExternalsSpec)

/-- ITS FALSE NEIGHBOUR: 'it returns false'. Refute it at one input. -/
def fnExactExternalsWrong : ChangeSpec := { name := "fnExactExternals", fn := fun _ => fun
  | [d] => { results := [.lit (.bool false)], args := [d] }
  | _ => none }
def FnExactExternalsWrongFalsely : Prop := fnExactExternalsRow.holds Try.pinned (OpenSpec.ofChange fnExactExternalsWrong)

/-- 'laws.FnExactStaleWeaks': WHATEVER THE INPUT: true; the input reads as it did. -/
def fnExactStaleWeaksSpec : ChangeSpec := { name := "fnExactStaleWeaks", fn := fun _ => fun
  | [d] => { results := [.lit (.bool true)], args := [d] }
  | _ => none }
def fnExactStaleWeaksRow : OpenClaim := { program := "ytkcekdedkfiddaa", sum := "0974ad490303334d11eca36bf64c06f8e8bf2f694167bec067be26bd5d62aaba", func := "loop.example/g01412/laws.FnExactStaleWeaks", spec := "fnExactStaleWeaks", apart := false }
def FnExactStaleWeaksSaid : Prop := fnExactStaleWeaksRow.holds Try.pinned (OpenSpec.ofChange fnExactStaleWeaksSpec)

/-- ITS FALSE NEIGHBOUR: 'it returns false'. Refute it at one input. -/
def fnExactStaleWeaksWrong : ChangeSpec := { name := "fnExactStaleWeaks", fn := fun _ => fun
  | [d] => { results := [.lit (.bool false)], args := [d] }
  | _ => none }
def FnExactStaleWeaksWrongFalsely : Prop := fnExactStaleWeaksRow.holds Try.pinned (OpenSpec.ofChange fnExactStaleWeaksWrong)

/- THE SECOND FORM. 'bulk': how many values and letters a reading holds, each counted each time it is reached (what is shared counts as often as it is met; a slice's spare places count too). A statement '..UptoSaid' is the law's where the arguments, and the package variables that the reading takes, are together of bulk at most 1048576: NARROWER than '..Said'. Prove '..Said' where nothing that the law and all that it calls make is longer than what came in: it says more and counts as full. Else prove '..UptoSaid'. A law counts once. -/
mutual
def uptoBulk {H : Type} : DataW H → Nat
  | .lit (.string bytes) => bytes.length + 1
  | .lit _ => 1
  | .nil => 1
  | .ptr d => uptoBulk d + 1
  | .slice elems spare => uptoBulkAll elems + uptoBulkAll spare + 1
  | .agg parts => uptoBulkAll parts + 1
  | .iface _ d => uptoBulk d + 1
  | .map entries => uptoBulkEntries entries + 1
  | .held _ => 1
def uptoBulkAll {H : Type} : List (DataW H) → Nat
  | [] => 0
  | d :: r => uptoBulk d + uptoBulkAll r
def uptoBulkEntries {H : Type} : List (Lit × DataW H) → Nat
  | [] => 0
  | x :: r => uptoBulkEntry x + uptoBulkEntries r
def uptoBulkEntry {H : Type} : Lit × DataW H → Nat
  | (.string bytes, d) => bytes.length + uptoBulk d + 1
  | (_, d) => uptoBulk d + 1
 end
def uptoSmall : (H : Type) → List (DataW H) → Bool := fun _ ds => decide (uptoBulkAll ds ≤ 1048576)
def OpenSpec.upto (s : _root_.Go.ChangeSpec) : _root_.Go.OpenSpec := { _root_.Go.OpenSpec.ofChange s with cond := some uptoSmall }

/-- 'laws.FnExactLeakWord', WHERE WHAT IT READS IS OF BULK AT MOST 1048576: true; the input reads as it did. -/
def fnExactLeakWordUptoRow : OpenClaim := { program := "ytkcekdedkfiddaa", sum := "0974ad490303334d11eca36bf64c06f8e8bf2f694167bec067be26bd5d62aaba", func := "loop.example/g01412/laws.FnExactLeakWord", spec := "fnExactLeakWord", apart := false, narrowed := true }
def FnExactLeakWordUptoSaid : Prop := fnExactLeakWordUptoRow.holds Try.pinned (OpenSpec.upto fnExactLeakWordSpec)

/-- 'laws.FnExactHeldBy', WHERE WHAT IT READS IS OF BULK AT MOST 1048576: true; the input reads as it did. -/
def fnExactHeldByUptoRow : OpenClaim := { program := "ytkcekdedkfiddaa", sum := "0974ad490303334d11eca36bf64c06f8e8bf2f694167bec067be26bd5d62aaba", func := "loop.example/g01412/laws.FnExactHeldBy", spec := "fnExactHeldBy", apart := false, narrowed := true }
def FnExactHeldByUptoSaid : Prop := fnExactHeldByUptoRow.holds Try.pinned (OpenSpec.upto fnExactHeldBySpec)

/-- 'laws.FnExactLiveOf', WHERE WHAT IT READS IS OF BULK AT MOST 1048576: true; the input reads as it did. -/
def fnExactLiveOfUptoRow : OpenClaim := { program := "ytkcekdedkfiddaa", sum := "0974ad490303334d11eca36bf64c06f8e8bf2f694167bec067be26bd5d62aaba", func := "loop.example/g01412/laws.FnExactLiveOf", spec := "fnExactLiveOf", apart := false, narrowed := true }
def FnExactLiveOfUptoSaid : Prop := fnExactLiveOfUptoRow.holds Try.pinned (OpenSpec.upto fnExactLiveOfSpec)

/-- 'laws.FnExactRootedBy', WHERE WHAT IT READS IS OF BULK AT MOST 1048576: true; the input reads as it did. -/
def fnExactRootedByUptoRow : OpenClaim := { program := "ytkcekdedkfiddaa", sum := "0974ad490303334d11eca36bf64c06f8e8bf2f694167bec067be26bd5d62aaba", func := "loop.example/g01412/laws.FnExactRootedBy", spec := "fnExactRootedBy", apart := false, narrowed := true }
def FnExactRootedByUptoSaid : Prop := fnExactRootedByUptoRow.holds Try.pinned (OpenSpec.upto fnExactRootedBySpec)

/-- 'laws.FnExactSpeakable', WHERE WHAT IT READS IS OF BULK AT MOST 1048576: true; the input reads as it did. -/
def fnExactSpeakableUptoRow : OpenClaim := { program := "ytkcekdedkfiddaa", sum := "0974ad490303334d11eca36bf64c06f8e8bf2f694167bec067be26bd5d62aaba", func := "loop.example/g01412/laws.FnExactSpeakable", spec := "fnExactSpeakable", apart := false, narrowed := true }
def FnExactSpeakableUptoSaid : Prop := fnExactSpeakableUptoRow.holds Try.pinned (OpenSpec.upto fnExactSpeakableSpec)

/-- 'laws.FnExactSiteName', WHERE WHAT IT READS IS OF BULK AT MOST 1048576: true; the input reads as it did. -/
def fnExactSiteNameUptoRow : OpenClaim := { program := "ytkcekdedkfiddaa", sum := "0974ad490303334d11eca36bf64c06f8e8bf2f694167bec067be26bd5d62aaba", func := "loop.example/g01412/laws.FnExactSiteName", spec := "fnExactSiteName", apart := false, narrowed := true }
def FnExactSiteNameUptoSaid : Prop := fnExactSiteNameUptoRow.holds Try.pinned (OpenSpec.upto fnExactSiteNameSpec)

/-- 'laws.FnExactSamePen', WHERE WHAT IT READS IS OF BULK AT MOST 1048576: true; the input reads as it did. -/
def fnExactSamePenUptoRow : OpenClaim := { program := "ytkcekdedkfiddaa", sum := "0974ad490303334d11eca36bf64c06f8e8bf2f694167bec067be26bd5d62aaba", func := "loop.example/g01412/laws.FnExactSamePen", spec := "fnExactSamePen", apart := false, narrowed := true }
def FnExactSamePenUptoSaid : Prop := fnExactSamePenUptoRow.holds Try.pinned (OpenSpec.upto fnExactSamePenSpec)

/-- 'laws.FnExactSameOps', WHERE WHAT IT READS IS OF BULK AT MOST 1048576: true; the input reads as it did. -/
def fnExactSameOpsUptoRow : OpenClaim := { program := "ytkcekdedkfiddaa", sum := "0974ad490303334d11eca36bf64c06f8e8bf2f694167bec067be26bd5d62aaba", func := "loop.example/g01412/laws.FnExactSameOps", spec := "fnExactSameOps", apart := false, narrowed := true }
def FnExactSameOpsUptoSaid : Prop := fnExactSameOpsUptoRow.holds Try.pinned (OpenSpec.upto fnExactSameOpsSpec)

/-- 'laws.FnExactSameRows', WHERE WHAT IT READS IS OF BULK AT MOST 1048576: true; the input reads as it did. -/
def fnExactSameRowsUptoRow : OpenClaim := { program := "ytkcekdedkfiddaa", sum := "0974ad490303334d11eca36bf64c06f8e8bf2f694167bec067be26bd5d62aaba", func := "loop.example/g01412/laws.FnExactSameRows", spec := "fnExactSameRows", apart := false, narrowed := true }
def FnExactSameRowsUptoSaid : Prop := fnExactSameRowsUptoRow.holds Try.pinned (OpenSpec.upto fnExactSameRowsSpec)

/-- 'laws.FnExactSameGroups', WHERE WHAT IT READS IS OF BULK AT MOST 1048576: true; the input reads as it did. -/
def fnExactSameGroupsUptoRow : OpenClaim := { program := "ytkcekdedkfiddaa", sum := "0974ad490303334d11eca36bf64c06f8e8bf2f694167bec067be26bd5d62aaba", func := "loop.example/g01412/laws.FnExactSameGroups", spec := "fnExactSameGroups", apart := false, narrowed := true }
def FnExactSameGroupsUptoSaid : Prop := fnExactSameGroupsUptoRow.holds Try.pinned (OpenSpec.upto fnExactSameGroupsSpec)

/-- 'laws.FnExactExternals', WHERE WHAT IT READS IS OF BULK AT MOST 1048576: true; the input reads as it did. -/
def fnExactExternalsUptoRow : OpenClaim := { program := "ytkcekdedkfiddaa", sum := "0974ad490303334d11eca36bf64c06f8e8bf2f694167bec067be26bd5d62aaba", func := "loop.example/g01412/laws.FnExactExternals", spec := "fnExactExternals", apart := false, narrowed := true }
def FnExactExternalsUptoSaid : Prop := fnExactExternalsUptoRow.holds Try.pinned (OpenSpec.upto fnExactExternalsSpec)

/-- 'laws.FnExactStaleWeaks', WHERE WHAT IT READS IS OF BULK AT MOST 1048576: true; the input reads as it did. -/
def fnExactStaleWeaksUptoRow : OpenClaim := { program := "ytkcekdedkfiddaa", sum := "0974ad490303334d11eca36bf64c06f8e8bf2f694167bec067be26bd5d62aaba", func := "loop.example/g01412/laws.FnExactStaleWeaks", spec := "fnExactStaleWeaks", apart := false, narrowed := true }
def FnExactStaleWeaksUptoSaid : Prop := fnExactStaleWeaksUptoRow.holds Try.pinned (OpenSpec.upto fnExactStaleWeaksSpec)

end Rows
end Go.Proofs.Ytkcekdedkfiddaa
