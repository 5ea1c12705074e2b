/-
  DERIVED. GIVEN WITH THE SEED: THE CARDS: each row of YtgjhldabffjiaaaGreatDoorRows.lean that lists a variable, with what it lists TIED to the program's text (the seventh form; the later family's looks); each row that meets fmt, with fmt's text TOLD by the authors' own Lean function (tested against real Go, not proved from fmt's source: count such statements apart). THE CARD IS WHAT COUNTS. Prove the row's statement (the work); the ties are given (YtgjhldabffjiaaaGreatDoorTie.lean); close each card by the builder's one call (the guide's Derived/Test/ToyasCard.lean, 'card_holds'). Laid BY PROGRAM, IN A SANDBOX (cutbox-door.mjs). By AI agents, Wed Nov 11 2026. No macro, syntax, notation, axiom, sorry.
-/
import Derived.Test.YtgjhldabffjiaaaGreatDoorRows
import GoSem.ClaimSeven
namespace Go.Proofs.YtgjhldabffjiaaaGreatDoor
namespace Rows

/-- THE TIED CARD OF 'foremanlaw30.PlayerValues'. -/
def playerValuesCard : Claim7 := { stood := { row := playerValuesRow, standIns := [], harness := (true, "ecd9024107529d13949b3557497474f1cf0096291a71ff192b86cae5219a07dc"), looks := true }, kinds := [], alts := [], laidByText := true, laidKinds := [.pinned, .data, .data, .data, .data, .sentinel, .sentinel, .data], laidTests := true, laidLooks := .later }
def PlayerValuesCardSaid : Prop := Claim7.holds Tryz.pinned (.plain (OpenSpec.ofChange playerValuesSpec)) playerValuesCard

/-- THE SECOND FORM's CARD OF 'foremanlaw30.PlayerValues'. -/
def playerValuesUptoCard : Claim7 := { stood := { row := playerValuesUptoRow, standIns := [], harness := (true, "ecd9024107529d13949b3557497474f1cf0096291a71ff192b86cae5219a07dc"), looks := true }, kinds := [], alts := [], laidByText := true, laidKinds := [.pinned, .data, .data, .data, .data, .sentinel, .sentinel, .data], laidTests := true, laidLooks := .later }
def PlayerValuesUptoCardSaid : Prop := Claim7.holds Tryz.pinned (.plain (OpenSpec.upto playerValuesSpec)) playerValuesUptoCard
end Rows
end Go.Proofs.YtgjhldabffjiaaaGreatDoor
