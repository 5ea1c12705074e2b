/-
  DERIVED. GIVEN WITH THE SEED: THE CARDS: each row of YtjacnbabnpgpaaaGreatDoorRows.lean that lists a variable, with what it lists TIED to the program's text (the seventh form; the later family's looks); each row that meets fmt, with fmt's text TOLD by the authors' own Lean function (tested against real Go, not proved from fmt's source: count such statements apart). THE CARD IS WHAT COUNTS. Prove the row's statement (the work); the ties are given (YtjacnbabnpgpaaaGreatDoorTie.lean); close each card by the builder's one call (the guide's Derived/Test/ToyasCard.lean, 'card_holds'). Laid BY PROGRAM, IN A SANDBOX (cutbox-door.mjs). By AI agents, Wed Nov 11 2026. No macro, syntax, notation, axiom, sorry.
-/
import Derived.Test.YtjacnbabnpgpaaaGreatDoorRows
import GoSem.ClaimSeven
namespace Go.Proofs.YtjacnbabnpgpaaaGreatDoor
namespace Rows

/-- THE TIED CARD OF 'foremanlaw29.BoundTells'. -/
def boundTellsCard : Claim7 := { stood := { row := boundTellsRow, standIns := [], harness := (true, "3bd09e0bf4c92c2b7668c8a5caace43614f5a5c7af12d8bba0cc8037b8e90875"), looks := false }, kinds := [], alts := [], laidByText := true, laidKinds := [.data, .data, .pinned], laidTests := true, laidLooks := .later }
def BoundTellsCardSaid : Prop := Claim7.holds Tryz.pinned (.plain (OpenSpec.ofChange boundTellsSpec)) boundTellsCard

/-- THE TIED CARD OF 'foremanlaw29.BoundLong'. -/
def boundLongCard : Claim7 := { stood := { row := boundLongRow, standIns := [], harness := (true, "3bd09e0bf4c92c2b7668c8a5caace43614f5a5c7af12d8bba0cc8037b8e90875"), looks := false }, kinds := [], alts := [], laidByText := true, laidKinds := [.data, .data, .pinned], laidTests := true, laidLooks := .later }
def BoundLongCardSaid : Prop := Claim7.holds Tryz.pinned (.plain (OpenSpec.ofChange boundLongSpec)) boundLongCard

/-- THE SECOND FORM's CARD OF 'foremanlaw29.BoundTells'. -/
def boundTellsUptoCard : Claim7 := { stood := { row := boundTellsUptoRow, standIns := [], harness := (true, "3bd09e0bf4c92c2b7668c8a5caace43614f5a5c7af12d8bba0cc8037b8e90875"), looks := false }, kinds := [], alts := [], laidByText := true, laidKinds := [.data, .data, .pinned], laidTests := true, laidLooks := .later }
def BoundTellsUptoCardSaid : Prop := Claim7.holds Tryz.pinned (.plain (OpenSpec.upto boundTellsSpec)) boundTellsUptoCard

/-- THE SECOND FORM's CARD OF 'foremanlaw29.BoundLong'. -/
def boundLongUptoCard : Claim7 := { stood := { row := boundLongUptoRow, standIns := [], harness := (true, "3bd09e0bf4c92c2b7668c8a5caace43614f5a5c7af12d8bba0cc8037b8e90875"), looks := false }, kinds := [], alts := [], laidByText := true, laidKinds := [.data, .data, .pinned], laidTests := true, laidLooks := .later }
def BoundLongUptoCardSaid : Prop := Claim7.holds Tryz.pinned (.plain (OpenSpec.upto boundLongSpec)) boundLongUptoCard
end Rows
end Go.Proofs.YtjacnbabnpgpaaaGreatDoor
