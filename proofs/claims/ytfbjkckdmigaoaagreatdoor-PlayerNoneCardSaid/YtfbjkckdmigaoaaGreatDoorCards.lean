/-
  DERIVED. GIVEN WITH THE SEED: THE CARDS: each row of YtfbjkckdmigaoaaGreatDoorRows.lean that lists a variable, with what it lists TIED to the program's text (the seventh form; the later family's looks); each row that meets fmt, with fmt's text TOLD by the authors' own Lean function (tested against real Go, not proved from fmt's source: count such statements apart). THE CARD IS WHAT COUNTS. Prove the row's statement (the work); the ties are given (YtfbjkckdmigaoaaGreatDoorTie.lean); close each card by the builder's one call (the guide's Derived/Test/ToyasCard.lean, 'card_holds'). Laid BY PROGRAM, IN A SANDBOX (cutbox-door.mjs). By AI agents, Wed Nov 11 2026. No macro, syntax, notation, axiom, sorry.
-/
import Derived.Test.YtfbjkckdmigaoaaGreatDoorRows
import GoSem.ClaimSeven
namespace Go.Proofs.YtfbjkckdmigaoaaGreatDoor
namespace Rows

/-- THE TIED CARD OF 'foremanlaw30.PlayerNone'. -/
def playerNoneCard : Claim7 := { stood := { row := playerNoneRow, standIns := [], harness := (true, "a9a5d48bd5f6dbb7ef59546dfefac67b6a75485b22fa48d205283b2cd4b7ad34"), looks := true }, kinds := [], alts := [], laidByText := true, laidKinds := [.pinned, .data, .data, .data, .data, .sentinel, .sentinel, .data], laidTests := true, laidLooks := .later }
def PlayerNoneCardSaid : Prop := Claim7.holds Tryz.pinned (.plain (OpenSpec.ofChange playerNoneSpec)) playerNoneCard

/-- THE SECOND FORM's CARD OF 'foremanlaw30.PlayerNone'. -/
def playerNoneUptoCard : Claim7 := { stood := { row := playerNoneUptoRow, standIns := [], harness := (true, "a9a5d48bd5f6dbb7ef59546dfefac67b6a75485b22fa48d205283b2cd4b7ad34"), looks := true }, kinds := [], alts := [], laidByText := true, laidKinds := [.pinned, .data, .data, .data, .data, .sentinel, .sentinel, .data], laidTests := true, laidLooks := .later }
def PlayerNoneUptoCardSaid : Prop := Claim7.holds Tryz.pinned (.plain (OpenSpec.upto playerNoneSpec)) playerNoneUptoCard
end Rows
end Go.Proofs.YtfbjkckdmigaoaaGreatDoor
