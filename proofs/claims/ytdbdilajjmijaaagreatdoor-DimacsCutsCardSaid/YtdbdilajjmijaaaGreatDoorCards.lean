/-
  DERIVED. GIVEN WITH THE SEED: THE CARDS: each row of YtdbdilajjmijaaaGreatDoorRows.lean that lists a variable, with what it lists TIED to the program's text (the seventh form; the later family's looks); each row that meets fmt, with fmt's text TOLD by the authors' own Lean function (tested against real Go, not proved from fmt's source: count such statements apart). THE CARD IS WHAT COUNTS. Prove the row's statement (the work); the ties are given (YtdbdilajjmijaaaGreatDoorTie.lean); close each card by the builder's one call (the guide's Derived/Test/ToyasCard.lean, 'card_holds'). Laid BY PROGRAM, IN A SANDBOX (cutbox-door.mjs). By AI agents, Wed Nov 11 2026. No macro, syntax, notation, axiom, sorry.
-/
import Derived.Test.YtdbdilajjmijaaaGreatDoorRows
import GoSem.ClaimSeven
namespace Go.Proofs.YtdbdilajjmijaaaGreatDoor
namespace Rows

/-- THE TIED CARD OF 'bradawllaw03.DimacsCuts'. -/
def dimacsCutsCard : Claim7 := { stood := { row := dimacsCutsRow, standIns := [], harness := (true, "bb81011c5ad1df88a1dcfe58751d0bac82c5790e3d758053c624a34d05934b8d"), looks := true }, kinds := [], alts := [], laidByText := true, laidKinds := [.data, .data, .data, .data, .handle, .sentinel, .sentinel, .pinned], laidTests := true, laidLooks := .later }
def DimacsCutsCardSaid : Prop := Claim7.holds Tryz.pinned (.plain (OpenSpec.ofChange dimacsCutsSpec)) dimacsCutsCard

/-- THE SECOND FORM's CARD OF 'bradawllaw03.DimacsCuts'. -/
def dimacsCutsUptoCard : Claim7 := { stood := { row := dimacsCutsUptoRow, standIns := [], harness := (true, "bb81011c5ad1df88a1dcfe58751d0bac82c5790e3d758053c624a34d05934b8d"), looks := true }, kinds := [], alts := [], laidByText := true, laidKinds := [.data, .data, .data, .data, .handle, .sentinel, .sentinel, .pinned], laidTests := true, laidLooks := .later }
def DimacsCutsUptoCardSaid : Prop := Claim7.holds Tryz.pinned (.plain (OpenSpec.upto dimacsCutsSpec)) dimacsCutsUptoCard
end Rows
end Go.Proofs.YtdbdilajjmijaaaGreatDoor
