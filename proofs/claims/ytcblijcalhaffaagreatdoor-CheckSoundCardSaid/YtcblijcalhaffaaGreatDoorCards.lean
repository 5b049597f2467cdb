/-
  DERIVED. GIVEN WITH THE SEED: THE CARDS: each row of YtcblijcalhaffaaGreatDoorRows.lean that lists a variable, with what it lists TIED to the program's text (the seventh form; the later family's looks); each row that meets fmt, with fmt's text TOLD by the authors' own Lean function (tested against real Go, not proved from fmt's source: count such statements apart). THE CARD IS WHAT COUNTS. Prove the row's statement (the work); the ties are given (YtcblijcalhaffaaGreatDoorTie.lean); close each card by the builder's one call (the guide's Derived/Test/ToyasCard.lean, 'card_holds'). Laid BY PROGRAM, IN A SANDBOX (cutbox-door.mjs). By AI agents, Wed Nov 11 2026. No macro, syntax, notation, axiom, sorry.
-/
import Derived.Test.YtcblijcalhaffaaGreatDoorRows
import GoSem.ClaimSeven
namespace Go.Proofs.YtcblijcalhaffaaGreatDoor
namespace Rows

/-- THE TIED CARD OF 'bradawllaw08.CheckKeeps'. -/
def checkKeepsCard : Claim7 := { stood := { row := checkKeepsRow, standIns := [], harness := (true, "df402722eb81c4c9dfefb9bbe608910ea3aff83329542d414017aea67fdeea90"), looks := true }, kinds := [], alts := [], laidByText := true, laidKinds := [.data, .data, .data, .data, .sentinel, .sentinel, .pinned], laidTests := true, laidLooks := .later }
def CheckKeepsCardSaid : Prop := Claim7.holds Tryz.pinned (.plain (OpenSpec.ofChange checkKeepsSpec)) checkKeepsCard

/-- THE TIED CARD OF 'bradawllaw08.CheckFronts'. -/
def checkFrontsCard : Claim7 := { stood := { row := checkFrontsRow, standIns := [], harness := (true, "df402722eb81c4c9dfefb9bbe608910ea3aff83329542d414017aea67fdeea90"), looks := true }, kinds := [], alts := [], laidByText := true, laidKinds := [.data, .data, .data, .data, .sentinel, .sentinel, .pinned], laidTests := true, laidLooks := .later }
def CheckFrontsCardSaid : Prop := Claim7.holds Tryz.pinned (.plain (OpenSpec.ofChange checkFrontsSpec)) checkFrontsCard

/-- THE TIED CARD OF 'bradawllaw08.CheckDeletes'. -/
def checkDeletesCard : Claim7 := { stood := { row := checkDeletesRow, standIns := [], harness := (true, "df402722eb81c4c9dfefb9bbe608910ea3aff83329542d414017aea67fdeea90"), looks := true }, kinds := [], alts := [], laidByText := true, laidKinds := [.data, .data, .data, .data, .sentinel, .sentinel, .pinned], laidTests := true, laidLooks := .later }
def CheckDeletesCardSaid : Prop := Claim7.holds Tryz.pinned (.plain (OpenSpec.ofChange checkDeletesSpec)) checkDeletesCard

/-- THE TIED CARD OF 'bradawllaw08.CheckRefuses'. -/
def checkRefusesCard : Claim7 := { stood := { row := checkRefusesRow, standIns := [], harness := (true, "df402722eb81c4c9dfefb9bbe608910ea3aff83329542d414017aea67fdeea90"), looks := true }, kinds := [], alts := [], laidByText := true, laidKinds := [.data, .data, .data, .data, .sentinel, .sentinel, .pinned], laidTests := true, laidLooks := .later }
def CheckRefusesCardSaid : Prop := Claim7.holds Tryz.pinned (.plain (OpenSpec.ofChange checkRefusesSpec)) checkRefusesCard

/-- THE TIED CARD OF 'bradawllaw08.CheckTells'. -/
def checkTellsCard : Claim7 := { stood := { row := checkTellsRow, standIns := [], harness := (true, "df402722eb81c4c9dfefb9bbe608910ea3aff83329542d414017aea67fdeea90"), looks := true }, kinds := [], alts := [], laidByText := true, laidKinds := [.data, .data, .data, .data, .sentinel, .sentinel, .pinned], laidTests := true, laidLooks := .later }
def CheckTellsCardSaid : Prop := Claim7.holds Tryz.pinned (.plain (OpenSpec.ofChange checkTellsSpec)) checkTellsCard

/-- THE TIED CARD OF 'bradawllaw08.CheckSound'. -/
def checkSoundCard : Claim7 := { stood := { row := checkSoundRow, standIns := [], harness := (true, "df402722eb81c4c9dfefb9bbe608910ea3aff83329542d414017aea67fdeea90"), looks := true }, kinds := [], alts := [], laidByText := true, laidKinds := [.data, .data, .data, .data, .sentinel, .sentinel, .pinned], laidTests := true, laidLooks := .later }
def CheckSoundCardSaid : Prop := Claim7.holds Tryz.pinned (.plain (OpenSpec.ofChange checkSoundSpec)) checkSoundCard

/-- THE SECOND FORM's CARD OF 'bradawllaw08.CheckKeeps'. -/
def checkKeepsUptoCard : Claim7 := { stood := { row := checkKeepsUptoRow, standIns := [], harness := (true, "df402722eb81c4c9dfefb9bbe608910ea3aff83329542d414017aea67fdeea90"), looks := true }, kinds := [], alts := [], laidByText := true, laidKinds := [.data, .data, .data, .data, .sentinel, .sentinel, .pinned], laidTests := true, laidLooks := .later }
def CheckKeepsUptoCardSaid : Prop := Claim7.holds Tryz.pinned (.plain (OpenSpec.upto checkKeepsSpec)) checkKeepsUptoCard

/-- THE SECOND FORM's CARD OF 'bradawllaw08.CheckFronts'. -/
def checkFrontsUptoCard : Claim7 := { stood := { row := checkFrontsUptoRow, standIns := [], harness := (true, "df402722eb81c4c9dfefb9bbe608910ea3aff83329542d414017aea67fdeea90"), looks := true }, kinds := [], alts := [], laidByText := true, laidKinds := [.data, .data, .data, .data, .sentinel, .sentinel, .pinned], laidTests := true, laidLooks := .later }
def CheckFrontsUptoCardSaid : Prop := Claim7.holds Tryz.pinned (.plain (OpenSpec.upto checkFrontsSpec)) checkFrontsUptoCard

/-- THE SECOND FORM's CARD OF 'bradawllaw08.CheckDeletes'. -/
def checkDeletesUptoCard : Claim7 := { stood := { row := checkDeletesUptoRow, standIns := [], harness := (true, "df402722eb81c4c9dfefb9bbe608910ea3aff83329542d414017aea67fdeea90"), looks := true }, kinds := [], alts := [], laidByText := true, laidKinds := [.data, .data, .data, .data, .sentinel, .sentinel, .pinned], laidTests := true, laidLooks := .later }
def CheckDeletesUptoCardSaid : Prop := Claim7.holds Tryz.pinned (.plain (OpenSpec.upto checkDeletesSpec)) checkDeletesUptoCard

/-- THE SECOND FORM's CARD OF 'bradawllaw08.CheckRefuses'. -/
def checkRefusesUptoCard : Claim7 := { stood := { row := checkRefusesUptoRow, standIns := [], harness := (true, "df402722eb81c4c9dfefb9bbe608910ea3aff83329542d414017aea67fdeea90"), looks := true }, kinds := [], alts := [], laidByText := true, laidKinds := [.data, .data, .data, .data, .sentinel, .sentinel, .pinned], laidTests := true, laidLooks := .later }
def CheckRefusesUptoCardSaid : Prop := Claim7.holds Tryz.pinned (.plain (OpenSpec.upto checkRefusesSpec)) checkRefusesUptoCard

/-- THE SECOND FORM's CARD OF 'bradawllaw08.CheckTells'. -/
def checkTellsUptoCard : Claim7 := { stood := { row := checkTellsUptoRow, standIns := [], harness := (true, "df402722eb81c4c9dfefb9bbe608910ea3aff83329542d414017aea67fdeea90"), looks := true }, kinds := [], alts := [], laidByText := true, laidKinds := [.data, .data, .data, .data, .sentinel, .sentinel, .pinned], laidTests := true, laidLooks := .later }
def CheckTellsUptoCardSaid : Prop := Claim7.holds Tryz.pinned (.plain (OpenSpec.upto checkTellsSpec)) checkTellsUptoCard

/-- THE SECOND FORM's CARD OF 'bradawllaw08.CheckSound'. -/
def checkSoundUptoCard : Claim7 := { stood := { row := checkSoundUptoRow, standIns := [], harness := (true, "df402722eb81c4c9dfefb9bbe608910ea3aff83329542d414017aea67fdeea90"), looks := true }, kinds := [], alts := [], laidByText := true, laidKinds := [.data, .data, .data, .data, .sentinel, .sentinel, .pinned], laidTests := true, laidLooks := .later }
def CheckSoundUptoCardSaid : Prop := Claim7.holds Tryz.pinned (.plain (OpenSpec.upto checkSoundSpec)) checkSoundUptoCard
end Rows
end Go.Proofs.YtcblijcalhaffaaGreatDoor
