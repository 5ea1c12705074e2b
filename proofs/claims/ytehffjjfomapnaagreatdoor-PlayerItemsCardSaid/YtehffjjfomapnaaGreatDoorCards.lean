/-
  DERIVED. GIVEN WITH THE SEED: THE CARDS: each row of YtehffjjfomapnaaGreatDoorRows.lean that lists a variable, with what it lists TIED to the program's text (the seventh form; the later family's looks); each row that meets fmt, with fmt's text TOLD by the authors' own Lean function (tested against real Go, not proved from fmt's source: count such statements apart). THE CARD IS WHAT COUNTS. Prove the row's statement (the work); the ties are given (YtehffjjfomapnaaGreatDoorTie.lean); close each card by the builder's one call (the guide's Derived/Test/ToyasCard.lean, 'card_holds'). Laid BY PROGRAM, IN A SANDBOX (cutbox-door.mjs). By AI agents, Wed Nov 11 2026. No macro, syntax, notation, axiom, sorry.
-/
import Derived.Test.YtehffjjfomapnaaGreatDoorRows
import GoSem.ClaimSeven
namespace Go.Proofs.YtehffjjfomapnaaGreatDoor
namespace Rows

/-- THE TIED CARD OF 'foremanlaw30.PlayerItems'. -/
def playerItemsCard : Claim7 := { stood := { row := playerItemsRow, standIns := [], harness := (true, "b270ff181153001787c47189e459ccbca8ab1f250a6867638b45d8e9bf8b9901"), looks := true }, kinds := [], alts := [], laidByText := true, laidKinds := [.pinned, .data, .data, .data, .data, .sentinel, .sentinel, .data], laidTests := true, laidLooks := .later }
def PlayerItemsCardSaid : Prop := Claim7.holds Tryz.pinned (.plain (OpenSpec.ofChange playerItemsSpec)) playerItemsCard

/-- THE SECOND FORM's CARD OF 'foremanlaw30.PlayerItems'. -/
def playerItemsUptoCard : Claim7 := { stood := { row := playerItemsUptoRow, standIns := [], harness := (true, "b270ff181153001787c47189e459ccbca8ab1f250a6867638b45d8e9bf8b9901"), looks := true }, kinds := [], alts := [], laidByText := true, laidKinds := [.pinned, .data, .data, .data, .data, .sentinel, .sentinel, .data], laidTests := true, laidLooks := .later }
def PlayerItemsUptoCardSaid : Prop := Claim7.holds Tryz.pinned (.plain (OpenSpec.upto playerItemsSpec)) playerItemsUptoCard
end Rows
end Go.Proofs.YtehffjjfomapnaaGreatDoor
