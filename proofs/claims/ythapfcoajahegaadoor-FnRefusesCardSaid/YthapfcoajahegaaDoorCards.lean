/-
  DERIVED. GIVEN WITH THE SEED: THE CARDS: each row of YthapfcoajahegaaDoorRows.lean that lists a variable, with what it lists TIED to the program's text (the seventh form; the later family's looks); each row that meets fmt, with fmt's text TOLD by the authors' own Lean function (tested against real Go, not proved from fmt's source: count such statements apart). THE CARD IS WHAT COUNTS. Prove the row's statement (the work); the ties are given (YthapfcoajahegaaDoorTie.lean); close each card by the builder's one call (the guide's Derived/Test/ToyasCard.lean, 'card_holds'). Laid BY PROGRAM, IN A SANDBOX (cutbox-door.mjs). By AI agents, Wed Nov 11 2026. No macro, syntax, notation, axiom, sorry.
-/
import Derived.Test.YthapfcoajahegaaDoorRows
import GoSem.ClaimSeven
namespace Go.Proofs.YthapfcoajahegaaDoor
namespace Rows

/-- THE TIED CARD OF 'laws.FnRefuses'. -/
def fnRefusesCard : Claim7 := { stood := { row := fnRefusesRow, standIns := [], harness := (true, "7ed5bd9bd6f4afed2f676e47907cef1b6a20e85b811f5492cc4eb68b45125958"), looks := false }, kinds := [], alts := [], laidByText := true, laidKinds := [.data, .pinned], laidTests := true, laidLooks := .later }
def FnRefusesCardSaid : Prop := Claim7.holds Tryd.pinned (.plain (OpenSpec.ofChange fnRefusesSpec)) fnRefusesCard

/-- THE SECOND FORM's CARD OF 'laws.FnRefuses'. -/
def fnRefusesUptoCard : Claim7 := { stood := { row := fnRefusesUptoRow, standIns := [], harness := (true, "7ed5bd9bd6f4afed2f676e47907cef1b6a20e85b811f5492cc4eb68b45125958"), looks := false }, kinds := [], alts := [], laidByText := true, laidKinds := [.data, .pinned], laidTests := true, laidLooks := .later }
def FnRefusesUptoCardSaid : Prop := Claim7.holds Tryd.pinned (.plain (OpenSpec.upto fnRefusesSpec)) fnRefusesUptoCard
end Rows
end Go.Proofs.YthapfcoajahegaaDoor
