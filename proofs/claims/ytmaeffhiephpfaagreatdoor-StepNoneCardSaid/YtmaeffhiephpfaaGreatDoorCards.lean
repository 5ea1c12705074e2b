/-
  DERIVED. GIVEN WITH THE SEED: THE CARDS: each row of YtmaeffhiephpfaaGreatDoorRows.lean that lists a variable, with what it lists TIED to the program's text (the seventh form; the later family's looks); each row that meets fmt, with fmt's text TOLD by the authors' own Lean function (tested against real Go, not proved from fmt's source: count such statements apart). THE CARD IS WHAT COUNTS. Prove the row's statement (the work); the ties are given (YtmaeffhiephpfaaGreatDoorTie.lean); close each card by the builder's one call (the guide's Derived/Test/ToyasCard.lean, 'card_holds'). Laid BY PROGRAM, IN A SANDBOX (cutbox-door.mjs). By AI agents, Wed Nov 11 2026. No macro, syntax, notation, axiom, sorry.
-/
import Derived.Test.YtmaeffhiephpfaaGreatDoorRows
import GoSem.ClaimSeven
namespace Go.Proofs.YtmaeffhiephpfaaGreatDoor
namespace Rows

/-- THE TIED CARD OF 'foremanlaw23.StepNone'. -/
def stepNoneCard : Claim7 := { stood := { row := stepNoneRow, standIns := [], harness := (true, "22643bb6bf8f525ccfb68df42207824029564265b0a0c69b1691154f90739215"), looks := true }, kinds := [], alts := [], laidByText := true, laidKinds := [.data, .data, .data, .data, .sentinel, .sentinel, .data, .pinned], laidTests := true, laidLooks := .later }
def StepNoneCardSaid : Prop := Claim7.holds Tryz.pinned (.plain (OpenSpec.ofChange stepNoneSpec)) stepNoneCard

/-- THE SECOND FORM's CARD OF 'foremanlaw23.StepNone'. -/
def stepNoneUptoCard : Claim7 := { stood := { row := stepNoneUptoRow, standIns := [], harness := (true, "22643bb6bf8f525ccfb68df42207824029564265b0a0c69b1691154f90739215"), looks := true }, kinds := [], alts := [], laidByText := true, laidKinds := [.data, .data, .data, .data, .sentinel, .sentinel, .data, .pinned], laidTests := true, laidLooks := .later }
def StepNoneUptoCardSaid : Prop := Claim7.holds Tryz.pinned (.plain (OpenSpec.upto stepNoneSpec)) stepNoneUptoCard
end Rows
end Go.Proofs.YtmaeffhiephpfaaGreatDoor
