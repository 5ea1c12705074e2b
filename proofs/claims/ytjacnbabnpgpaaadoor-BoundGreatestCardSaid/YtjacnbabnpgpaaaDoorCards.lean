/-
  DERIVED. GIVEN WITH THE SEED: THE CARDS: each row of YtjacnbabnpgpaaaDoorRows.lean that lists a variable, with what it lists TIED to the program's text (the seventh form; the later family's looks); each row that meets fmt, with fmt's text TOLD by the authors' own Lean function (tested against real Go, not proved from fmt's source: count such statements apart). THE CARD IS WHAT COUNTS. Prove the row's statement (the work); the ties are given (YtjacnbabnpgpaaaDoorTie.lean); close each card by the builder's one call (the guide's Derived/Test/ToyasCard.lean, 'card_holds'). Laid BY PROGRAM, IN A SANDBOX (cutbox-door.mjs). By AI agents, Wed Nov 11 2026. No macro, syntax, notation, axiom, sorry.
-/
import Derived.Test.YtjacnbabnpgpaaaDoorRows
import GoSem.ClaimSeven
namespace Go.Proofs.YtjacnbabnpgpaaaDoor
namespace Rows

/-- THE TIED CARD OF 'foremanlaw29.BoundGreatest'. -/
def boundGreatestCard : Claim7 := { stood := { row := boundGreatestRow, standIns := [], harness := (true, "6b781d4a9ee56b20a70c969d74132e51609e90c06140b05028f68dcc366551d0"), looks := false }, kinds := [], alts := [], laidByText := true, laidKinds := [.data, .data, .pinned], laidTests := true, laidLooks := .later }
def BoundGreatestCardSaid : Prop := Claim7.holds Tryd.pinned (.plain (OpenSpec.ofChange boundGreatestSpec)) boundGreatestCard

/-- THE SECOND FORM's CARD OF 'foremanlaw29.BoundGreatest'. -/
def boundGreatestUptoCard : Claim7 := { stood := { row := boundGreatestUptoRow, standIns := [], harness := (true, "6b781d4a9ee56b20a70c969d74132e51609e90c06140b05028f68dcc366551d0"), looks := false }, kinds := [], alts := [], laidByText := true, laidKinds := [.data, .data, .pinned], laidTests := true, laidLooks := .later }
def BoundGreatestUptoCardSaid : Prop := Claim7.holds Tryd.pinned (.plain (OpenSpec.upto boundGreatestSpec)) boundGreatestUptoCard
end Rows
end Go.Proofs.YtjacnbabnpgpaaaDoor
