/-
  No cell of these rows narrows 'for every input' (looked for: loops, veiled, ifaces, maps, wideKeys, modest, calm, conditions, laid).
  DERIVED. THE GIVEN ROWS OF THIS SEAT. 10 by the template 'for every input the law returns true; each argument reads behind the call as it read before'; 0 by the template 'total and deterministic' (their statements: YtnhicpkhkaihoaaTotals.lean).
  GIVEN WITH THE SEED: the statements are not yours to turn. If you find one false, say at which input.
  Laid BY PROGRAM, IN A SANDBOX (cutbox-rows.mjs): the forced cells as the released guide's own fill.sh prints them over the translation f069350f9e0f21a2… (all of the seat's roots in one cut). By AI agents, Wed Nov 11 2026. No macro, syntax, notation, axiom, sorry.
-/
import Derived.Test.YtnhicpkhkaihoaaChecked
import GoSem.Claim
import GoSem.ClaimJoined
import GoSem.ClaimMapViews
import Derived.JoinedTies
import Derived.KernelRfl
namespace Go.Proofs.Ytnhicpkhkaihoaa
/- THE CELL 'sum', in the pinned program and in every row, IS THE sha256 OF THE DUMP (.gsa) THAT YtnhicpkhkaihoaaProg.lean LOADS. Nothing in Lean hashes anything: it is a label: what it is worth is what the hold of that sum in a sandbox is worth. -/
noncomputable def Try.pinned : Pinned := { name := "ytnhicpkhkaihoaa", sum := "f069350f9e0f21a2eb2f13a037d30ba6ff3ae2d3e6c686cd679a92a10f892540", checked := Try.checked }
namespace Rows
def none {H : Type} : Left H := { results := [], args := [] }

/-- 'laws.FnExactExternals': WHATEVER THE INPUT: true; the input reads as it did. -/
def fnExactExternalsSpec : ChangeSpec := { name := "fnExactExternals", fn := fun _ => fun
  | [d] => { results := [.lit (.bool true)], args := [d] }
  | _ => none }
def fnExactExternalsRow : OpenClaim := { program := "ytnhicpkhkaihoaa", sum := "f069350f9e0f21a2eb2f13a037d30ba6ff3ae2d3e6c686cd679a92a10f892540", func := "loop.example/g01412/laws.FnExactExternals", spec := "fnExactExternals", apart := false }
def FnExactExternalsSaid : Prop := fnExactExternalsRow.holds Try.pinned (OpenSpec.ofChange fnExactExternalsSpec)

/-- ITS FALSE NEIGHBOUR: 'it returns false'. Refute it at one input. -/
def fnExactExternalsWrong : ChangeSpec := { name := "fnExactExternals", fn := fun _ => fun
  | [d] => { results := [.lit (.bool false)], args := [d] }
  | _ => none }
def FnExactExternalsWrongFalsely : Prop := fnExactExternalsRow.holds Try.pinned (OpenSpec.ofChange fnExactExternalsWrong)

/-- 'laws.FnExactStaleWeaks': WHATEVER THE INPUT: true; the input reads as it did. -/
def fnExactStaleWeaksSpec : ChangeSpec := { name := "fnExactStaleWeaks", fn := fun _ => fun
  | [d] => { results := [.lit (.bool true)], args := [d] }
  | _ => none }
def fnExactStaleWeaksRow : OpenClaim := { program := "ytnhicpkhkaihoaa", sum := "f069350f9e0f21a2eb2f13a037d30ba6ff3ae2d3e6c686cd679a92a10f892540", func := "loop.example/g01412/laws.FnExactStaleWeaks", spec := "fnExactStaleWeaks", apart := false }
def FnExactStaleWeaksSaid : Prop := fnExactStaleWeaksRow.holds Try.pinned (OpenSpec.ofChange fnExactStaleWeaksSpec)

/-- ITS FALSE NEIGHBOUR: 'it returns false'. Refute it at one input. -/
def fnExactStaleWeaksWrong : ChangeSpec := { name := "fnExactStaleWeaks", fn := fun _ => fun
  | [d] => { results := [.lit (.bool false)], args := [d] }
  | _ => none }
def FnExactStaleWeaksWrongFalsely : Prop := fnExactStaleWeaksRow.holds Try.pinned (OpenSpec.ofChange fnExactStaleWeaksWrong)

/-- 'laws.FnExactEncode': WHATEVER THE INPUT: true; the input reads as it did. -/
def fnExactEncodeSpec : ChangeSpec := { name := "fnExactEncode", fn := fun _ => fun
  | [d1, d2] => { results := [.lit (.bool true)], args := [d1, d2] }
  | _ => none }
def fnExactEncodeRow : OpenClaim := { program := "ytnhicpkhkaihoaa", sum := "f069350f9e0f21a2eb2f13a037d30ba6ff3ae2d3e6c686cd679a92a10f892540", func := "loop.example/g01412/laws.FnExactEncode", spec := "fnExactEncode", apart := false }
def FnExactEncodeSaid : Prop := fnExactEncodeRow.holds Try.pinned (OpenSpec.ofChange fnExactEncodeSpec)

/-- ITS FALSE NEIGHBOUR: 'it returns false'. Refute it at one input. -/
def fnExactEncodeWrong : ChangeSpec := { name := "fnExactEncode", fn := fun _ => fun
  | [d1, d2] => { results := [.lit (.bool false)], args := [d1, d2] }
  | _ => none }
def FnExactEncodeWrongFalsely : Prop := fnExactEncodeRow.holds Try.pinned (OpenSpec.ofChange fnExactEncodeWrong)

/-- 'laws.FnExactReadEvent': WHATEVER THE INPUT: true; the input reads as it did. -/
def fnExactReadEventSpec : ChangeSpec := { name := "fnExactReadEvent", fn := fun _ => fun
  | [d1, d2] => { results := [.lit (.bool true)], args := [d1, d2] }
  | _ => none }
def fnExactReadEventRow : OpenClaim := { program := "ytnhicpkhkaihoaa", sum := "f069350f9e0f21a2eb2f13a037d30ba6ff3ae2d3e6c686cd679a92a10f892540", func := "loop.example/g01412/laws.FnExactReadEvent", spec := "fnExactReadEvent", apart := false }
def FnExactReadEventSaid : Prop := fnExactReadEventRow.holds Try.pinned (OpenSpec.ofChange fnExactReadEventSpec)

/-- ITS FALSE NEIGHBOUR: 'it returns false'. Refute it at one input. -/
def fnExactReadEventWrong : ChangeSpec := { name := "fnExactReadEvent", fn := fun _ => fun
  | [d1, d2] => { results := [.lit (.bool false)], args := [d1, d2] }
  | _ => none }
def FnExactReadEventWrongFalsely : Prop := fnExactReadEventRow.holds Try.pinned (OpenSpec.ofChange fnExactReadEventWrong)

/-- 'laws.FnExactDecode': WHATEVER THE INPUT: true; the input reads as it did. -/
def fnExactDecodeSpec : ChangeSpec := { name := "fnExactDecode", fn := fun _ => fun
  | [d] => { results := [.lit (.bool true)], args := [d] }
  | _ => none }
def fnExactDecodeRow : OpenClaim := { program := "ytnhicpkhkaihoaa", sum := "f069350f9e0f21a2eb2f13a037d30ba6ff3ae2d3e6c686cd679a92a10f892540", func := "loop.example/g01412/laws.FnExactDecode", spec := "fnExactDecode", apart := false }
def FnExactDecodeSaid : Prop := fnExactDecodeRow.holds Try.pinned (OpenSpec.ofChange fnExactDecodeSpec)

/-- ITS FALSE NEIGHBOUR: 'it returns false'. Refute it at one input. -/
def fnExactDecodeWrong : ChangeSpec := { name := "fnExactDecode", fn := fun _ => fun
  | [d] => { results := [.lit (.bool false)], args := [d] }
  | _ => none }
def FnExactDecodeWrongFalsely : Prop := fnExactDecodeRow.holds Try.pinned (OpenSpec.ofChange fnExactDecodeWrong)

/-- 'laws.FnEvents': WHATEVER THE INPUT: true; the input reads as it did. -/
def fnEventsSpec : ChangeSpec := { name := "fnEvents", fn := fun _ => fun
  | [d] => { results := [.lit (.bool true)], args := [d] }
  | _ => none }
def fnEventsRow : OpenClaim := { program := "ytnhicpkhkaihoaa", sum := "f069350f9e0f21a2eb2f13a037d30ba6ff3ae2d3e6c686cd679a92a10f892540", func := "loop.example/g01412/laws.FnEvents", spec := "fnEvents", apart := false }
def FnEventsSaid : Prop := fnEventsRow.holds Try.pinned (OpenSpec.ofChange fnEventsSpec)

/-- ITS FALSE NEIGHBOUR: 'it returns false'. Refute it at one input. -/
def fnEventsWrong : ChangeSpec := { name := "fnEvents", fn := fun _ => fun
  | [d] => { results := [.lit (.bool false)], args := [d] }
  | _ => none }
def FnEventsWrongFalsely : Prop := fnEventsRow.holds Try.pinned (OpenSpec.ofChange fnEventsWrong)

/-- 'laws.FnExactPlay': WHATEVER THE INPUT: true; the input reads as it did. -/
def fnExactPlaySpec : ChangeSpec := { name := "fnExactPlay", fn := fun _ => fun
  | [d] => { results := [.lit (.bool true)], args := [d] }
  | _ => none }
def fnExactPlayRow : OpenClaim := { program := "ytnhicpkhkaihoaa", sum := "f069350f9e0f21a2eb2f13a037d30ba6ff3ae2d3e6c686cd679a92a10f892540", func := "loop.example/g01412/laws.FnExactPlay", spec := "fnExactPlay", recurses := true, apart := false }
def FnExactPlaySaid : Prop := fnExactPlayRow.holds Try.pinned (OpenSpec.ofChange fnExactPlaySpec)

/-- ITS FALSE NEIGHBOUR: 'it returns false'. Refute it at one input. -/
def fnExactPlayWrong : ChangeSpec := { name := "fnExactPlay", fn := fun _ => fun
  | [d] => { results := [.lit (.bool false)], args := [d] }
  | _ => none }
def FnExactPlayWrongFalsely : Prop := fnExactPlayRow.holds Try.pinned (OpenSpec.ofChange fnExactPlayWrong)

/-- 'laws.FnExactApply': WHATEVER THE INPUT: true; the input reads as it did. -/
def fnExactApplySpec : ChangeSpec := { name := "fnExactApply", fn := fun _ => fun
  | [d1, d2] => { results := [.lit (.bool true)], args := [d1, d2] }
  | _ => none }
def fnExactApplyRow : OpenClaim := { program := "ytnhicpkhkaihoaa", sum := "f069350f9e0f21a2eb2f13a037d30ba6ff3ae2d3e6c686cd679a92a10f892540", func := "loop.example/g01412/laws.FnExactApply", spec := "fnExactApply", recurses := true, apart := false }
def FnExactApplySaid : Prop := fnExactApplyRow.holds Try.pinned (OpenSpec.ofChange fnExactApplySpec)

/-- ITS FALSE NEIGHBOUR: 'it returns false'. Refute it at one input. -/
def fnExactApplyWrong : ChangeSpec := { name := "fnExactApply", fn := fun _ => fun
  | [d1, d2] => { results := [.lit (.bool false)], args := [d1, d2] }
  | _ => none }
def FnExactApplyWrongFalsely : Prop := fnExactApplyRow.holds Try.pinned (OpenSpec.ofChange fnExactApplyWrong)

/-- 'laws.FnExactGraphOf': WHATEVER THE INPUT: true; the input reads as it did. -/
def fnExactGraphOfSpec : ChangeSpec := { name := "fnExactGraphOf", fn := fun _ => fun
  | [d] => { results := [.lit (.bool true)], args := [d] }
  | _ => none }
def fnExactGraphOfRow : OpenClaim := { program := "ytnhicpkhkaihoaa", sum := "f069350f9e0f21a2eb2f13a037d30ba6ff3ae2d3e6c686cd679a92a10f892540", func := "loop.example/g01412/laws.FnExactGraphOf", spec := "fnExactGraphOf", apart := false }
def FnExactGraphOfSaid : Prop := fnExactGraphOfRow.holds Try.pinned (OpenSpec.ofChange fnExactGraphOfSpec)

/-- ITS FALSE NEIGHBOUR: 'it returns false'. Refute it at one input. -/
def fnExactGraphOfWrong : ChangeSpec := { name := "fnExactGraphOf", fn := fun _ => fun
  | [d] => { results := [.lit (.bool false)], args := [d] }
  | _ => none }
def FnExactGraphOfWrongFalsely : Prop := fnExactGraphOfRow.holds Try.pinned (OpenSpec.ofChange fnExactGraphOfWrong)

/-- 'laws.FnExactLedger': WHATEVER THE INPUT: true; the input reads as it did. -/
def fnExactLedgerSpec : ChangeSpec := { name := "fnExactLedger", fn := fun _ => fun
  | [d1, d2] => { results := [.lit (.bool true)], args := [d1, d2] }
  | _ => none }
def fnExactLedgerRow : OpenClaim := { program := "ytnhicpkhkaihoaa", sum := "f069350f9e0f21a2eb2f13a037d30ba6ff3ae2d3e6c686cd679a92a10f892540", func := "loop.example/g01412/laws.FnExactLedger", spec := "fnExactLedger", apart := false }
def FnExactLedgerSaid : Prop := fnExactLedgerRow.holds Try.pinned (OpenSpec.ofChange fnExactLedgerSpec)

/-- ITS FALSE NEIGHBOUR: 'it returns false'. Refute it at one input. -/
def fnExactLedgerWrong : ChangeSpec := { name := "fnExactLedger", fn := fun _ => fun
  | [d1, d2] => { results := [.lit (.bool false)], args := [d1, d2] }
  | _ => none }
def FnExactLedgerWrongFalsely : Prop := fnExactLedgerRow.holds Try.pinned (OpenSpec.ofChange fnExactLedgerWrong)

/- THE SECOND FORM. 'bulk': how many values and letters a reading holds, each counted each time it is reached (what is shared counts as often as it is met; a slice's spare places count too). A statement '..UptoSaid' is the law's where the arguments, and the package variables that the reading takes, are together of bulk at most 1048576: NARROWER than '..Said'. Prove '..Said' where nothing that the law and all that it calls make is longer than what came in: it says more and counts as full. Else prove '..UptoSaid'. A law counts once. -/
mutual
def uptoBulk {H : Type} : DataW H → Nat
  | .lit (.string bytes) => bytes.length + 1
  | .lit _ => 1
  | .nil => 1
  | .ptr d => uptoBulk d + 1
  | .slice elems spare => uptoBulkAll elems + uptoBulkAll spare + 1
  | .agg parts => uptoBulkAll parts + 1
  | .iface _ d => uptoBulk d + 1
  | .map entries => uptoBulkEntries entries + 1
  | .held _ => 1
def uptoBulkAll {H : Type} : List (DataW H) → Nat
  | [] => 0
  | d :: r => uptoBulk d + uptoBulkAll r
def uptoBulkEntries {H : Type} : List (Lit × DataW H) → Nat
  | [] => 0
  | x :: r => uptoBulkEntry x + uptoBulkEntries r
def uptoBulkEntry {H : Type} : Lit × DataW H → Nat
  | (.string bytes, d) => bytes.length + uptoBulk d + 1
  | (_, d) => uptoBulk d + 1
 end
def uptoSmall : (H : Type) → List (DataW H) → Bool := fun _ ds => decide (uptoBulkAll ds ≤ 1048576)
def OpenSpec.upto (s : _root_.Go.ChangeSpec) : _root_.Go.OpenSpec := { _root_.Go.OpenSpec.ofChange s with cond := some uptoSmall }

/-- 'laws.FnExactExternals', WHERE WHAT IT READS IS OF BULK AT MOST 1048576: true; the input reads as it did. -/
def fnExactExternalsUptoRow : OpenClaim := { program := "ytnhicpkhkaihoaa", sum := "f069350f9e0f21a2eb2f13a037d30ba6ff3ae2d3e6c686cd679a92a10f892540", func := "loop.example/g01412/laws.FnExactExternals", spec := "fnExactExternals", apart := false, narrowed := true }
def FnExactExternalsUptoSaid : Prop := fnExactExternalsUptoRow.holds Try.pinned (OpenSpec.upto fnExactExternalsSpec)

/-- 'laws.FnExactStaleWeaks', WHERE WHAT IT READS IS OF BULK AT MOST 1048576: true; the input reads as it did. -/
def fnExactStaleWeaksUptoRow : OpenClaim := { program := "ytnhicpkhkaihoaa", sum := "f069350f9e0f21a2eb2f13a037d30ba6ff3ae2d3e6c686cd679a92a10f892540", func := "loop.example/g01412/laws.FnExactStaleWeaks", spec := "fnExactStaleWeaks", apart := false, narrowed := true }
def FnExactStaleWeaksUptoSaid : Prop := fnExactStaleWeaksUptoRow.holds Try.pinned (OpenSpec.upto fnExactStaleWeaksSpec)

/-- 'laws.FnExactEncode', WHERE WHAT IT READS IS OF BULK AT MOST 1048576: true; the input reads as it did. -/
def fnExactEncodeUptoRow : OpenClaim := { program := "ytnhicpkhkaihoaa", sum := "f069350f9e0f21a2eb2f13a037d30ba6ff3ae2d3e6c686cd679a92a10f892540", func := "loop.example/g01412/laws.FnExactEncode", spec := "fnExactEncode", apart := false, narrowed := true }
def FnExactEncodeUptoSaid : Prop := fnExactEncodeUptoRow.holds Try.pinned (OpenSpec.upto fnExactEncodeSpec)

/-- 'laws.FnExactReadEvent', WHERE WHAT IT READS IS OF BULK AT MOST 1048576: true; the input reads as it did. -/
def fnExactReadEventUptoRow : OpenClaim := { program := "ytnhicpkhkaihoaa", sum := "f069350f9e0f21a2eb2f13a037d30ba6ff3ae2d3e6c686cd679a92a10f892540", func := "loop.example/g01412/laws.FnExactReadEvent", spec := "fnExactReadEvent", apart := false, narrowed := true }
def FnExactReadEventUptoSaid : Prop := fnExactReadEventUptoRow.holds Try.pinned (OpenSpec.upto fnExactReadEventSpec)

/-- 'laws.FnExactDecode', WHERE WHAT IT READS IS OF BULK AT MOST 1048576: true; the input reads as it did. -/
def fnExactDecodeUptoRow : OpenClaim := { program := "ytnhicpkhkaihoaa", sum := "f069350f9e0f21a2eb2f13a037d30ba6ff3ae2d3e6c686cd679a92a10f892540", func := "loop.example/g01412/laws.FnExactDecode", spec := "fnExactDecode", apart := false, narrowed := true }
def FnExactDecodeUptoSaid : Prop := fnExactDecodeUptoRow.holds Try.pinned (OpenSpec.upto fnExactDecodeSpec)

/-- 'laws.FnEvents', WHERE WHAT IT READS IS OF BULK AT MOST 1048576: true; the input reads as it did. -/
def fnEventsUptoRow : OpenClaim := { program := "ytnhicpkhkaihoaa", sum := "f069350f9e0f21a2eb2f13a037d30ba6ff3ae2d3e6c686cd679a92a10f892540", func := "loop.example/g01412/laws.FnEvents", spec := "fnEvents", apart := false, narrowed := true }
def FnEventsUptoSaid : Prop := fnEventsUptoRow.holds Try.pinned (OpenSpec.upto fnEventsSpec)

/-- 'laws.FnExactPlay', WHERE WHAT IT READS IS OF BULK AT MOST 1048576: true; the input reads as it did. -/
def fnExactPlayUptoRow : OpenClaim := { program := "ytnhicpkhkaihoaa", sum := "f069350f9e0f21a2eb2f13a037d30ba6ff3ae2d3e6c686cd679a92a10f892540", func := "loop.example/g01412/laws.FnExactPlay", spec := "fnExactPlay", recurses := true, apart := false, narrowed := true }
def FnExactPlayUptoSaid : Prop := fnExactPlayUptoRow.holds Try.pinned (OpenSpec.upto fnExactPlaySpec)

/-- 'laws.FnExactApply', WHERE WHAT IT READS IS OF BULK AT MOST 1048576: true; the input reads as it did. -/
def fnExactApplyUptoRow : OpenClaim := { program := "ytnhicpkhkaihoaa", sum := "f069350f9e0f21a2eb2f13a037d30ba6ff3ae2d3e6c686cd679a92a10f892540", func := "loop.example/g01412/laws.FnExactApply", spec := "fnExactApply", recurses := true, apart := false, narrowed := true }
def FnExactApplyUptoSaid : Prop := fnExactApplyUptoRow.holds Try.pinned (OpenSpec.upto fnExactApplySpec)

/-- 'laws.FnExactGraphOf', WHERE WHAT IT READS IS OF BULK AT MOST 1048576: true; the input reads as it did. -/
def fnExactGraphOfUptoRow : OpenClaim := { program := "ytnhicpkhkaihoaa", sum := "f069350f9e0f21a2eb2f13a037d30ba6ff3ae2d3e6c686cd679a92a10f892540", func := "loop.example/g01412/laws.FnExactGraphOf", spec := "fnExactGraphOf", apart := false, narrowed := true }
def FnExactGraphOfUptoSaid : Prop := fnExactGraphOfUptoRow.holds Try.pinned (OpenSpec.upto fnExactGraphOfSpec)

/-- 'laws.FnExactLedger', WHERE WHAT IT READS IS OF BULK AT MOST 1048576: true; the input reads as it did. -/
def fnExactLedgerUptoRow : OpenClaim := { program := "ytnhicpkhkaihoaa", sum := "f069350f9e0f21a2eb2f13a037d30ba6ff3ae2d3e6c686cd679a92a10f892540", func := "loop.example/g01412/laws.FnExactLedger", spec := "fnExactLedger", apart := false, narrowed := true }
def FnExactLedgerUptoSaid : Prop := fnExactLedgerUptoRow.holds Try.pinned (OpenSpec.upto fnExactLedgerSpec)

end Rows
end Go.Proofs.Ytnhicpkhkaihoaa
