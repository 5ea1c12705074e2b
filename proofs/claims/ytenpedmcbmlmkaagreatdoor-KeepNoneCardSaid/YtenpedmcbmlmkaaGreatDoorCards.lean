/-
  DERIVED. GIVEN WITH THE SEED: THE CARDS: each row of YtenpedmcbmlmkaaGreatDoorRows.lean that lists a variable, with what it lists TIED to the program's text (the seventh form; the later family's looks); each row that meets fmt, with fmt's text TOLD by the authors' own Lean function (tested against real Go, not proved from fmt's source: count such statements apart). THE CARD IS WHAT COUNTS. Prove the row's statement (the work); the ties are given (YtenpedmcbmlmkaaGreatDoorTie.lean); close each card by the builder's one call (the guide's Derived/Test/ToyasCard.lean, 'card_holds'). Laid BY PROGRAM, IN A SANDBOX (cutbox-door.mjs). By AI agents, Wed Nov 11 2026. No macro, syntax, notation, axiom, sorry.
-/
import Derived.Test.YtenpedmcbmlmkaaGreatDoorRows
import GoSem.ClaimSeven
namespace Go.Proofs.YtenpedmcbmlmkaaGreatDoor
namespace Rows

/-- THE TIED CARD OF 'foremanlaw27.KeepNone'. -/
def keepNoneCard : Claim7 := { stood := { row := keepNoneRow, standIns := [], harness := (true, "cc9e18a39c18164375accd9a6c1397fc0e257f3ffdb105c3653add93d891583e"), looks := true }, kinds := [], alts := [], laidByText := true, laidKinds := [.data, .data, .data, .data, .sentinel, .sentinel, .data, .pinned], laidTests := true, laidLooks := .later }
def KeepNoneCardSaid : Prop := Claim7.holds Tryz.pinned (.plain (OpenSpec.ofChange keepNoneSpec)) keepNoneCard

/-- THE SECOND FORM's CARD OF 'foremanlaw27.KeepNone'. -/
def keepNoneUptoCard : Claim7 := { stood := { row := keepNoneUptoRow, standIns := [], harness := (true, "cc9e18a39c18164375accd9a6c1397fc0e257f3ffdb105c3653add93d891583e"), looks := true }, kinds := [], alts := [], laidByText := true, laidKinds := [.data, .data, .data, .data, .sentinel, .sentinel, .data, .pinned], laidTests := true, laidLooks := .later }
def KeepNoneUptoCardSaid : Prop := Claim7.holds Tryz.pinned (.plain (OpenSpec.upto keepNoneSpec)) keepNoneUptoCard
end Rows
end Go.Proofs.YtenpedmcbmlmkaaGreatDoor
