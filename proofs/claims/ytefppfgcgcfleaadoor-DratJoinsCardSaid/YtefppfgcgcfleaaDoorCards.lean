/-
  DERIVED. GIVEN WITH THE SEED: THE CARDS: each row of YtefppfgcgcfleaaDoorRows.lean that lists a variable, with what it lists TIED to the program's text (the seventh form; the later family's looks); each row that meets fmt, with fmt's text TOLD by the authors' own Lean function (tested against real Go, not proved from fmt's source: count such statements apart). THE CARD IS WHAT COUNTS. Prove the row's statement (the work); the ties are given (YtefppfgcgcfleaaDoorTie.lean); close each card by the builder's one call (the guide's Derived/Test/ToyasCard.lean, 'card_holds'). Laid BY PROGRAM, IN A SANDBOX (cutbox-door.mjs). By AI agents, Wed Nov 11 2026. No macro, syntax, notation, axiom, sorry.
-/
import Derived.Test.YtefppfgcgcfleaaDoorRows
import GoSem.ClaimSeven
namespace Go.Proofs.YtefppfgcgcfleaaDoor
namespace Rows

/-- THE TIED CARD OF 'bradawllaw06.DratTexts'. -/
def dratTextsCard : Claim7 := { stood := { row := dratTextsRow, standIns := [], harness := (true, "c53d6759c801e02e73c2716bf45bb1e9851371ce6852bc1db04ba1a3c537f551"), looks := true }, kinds := [], alts := [], laidByText := true, laidKinds := [.data, .data, .data, .data, .sentinel, .sentinel, .pinned], laidTests := true, laidLooks := .later }
def DratTextsCardSaid : Prop := Claim7.holds Tryd.pinned (.plain (OpenSpec.ofChange dratTextsSpec)) dratTextsCard

/-- THE TIED CARD OF 'bradawllaw06.DratBytes'. -/
def dratBytesCard : Claim7 := { stood := { row := dratBytesRow, standIns := [], harness := (true, "c53d6759c801e02e73c2716bf45bb1e9851371ce6852bc1db04ba1a3c537f551"), looks := true }, kinds := [], alts := [], laidByText := true, laidKinds := [.data, .data, .data, .data, .sentinel, .sentinel, .pinned], laidTests := true, laidLooks := .later }
def DratBytesCardSaid : Prop := Claim7.holds Tryd.pinned (.plain (OpenSpec.ofChange dratBytesSpec)) dratBytesCard

/-- THE TIED CARD OF 'bradawllaw06.DratRights'. -/
def dratRightsCard : Claim7 := { stood := { row := dratRightsRow, standIns := [], harness := (true, "c53d6759c801e02e73c2716bf45bb1e9851371ce6852bc1db04ba1a3c537f551"), looks := true }, kinds := [], alts := [], laidByText := true, laidKinds := [.data, .data, .data, .data, .sentinel, .sentinel, .pinned], laidTests := true, laidLooks := .later }
def DratRightsCardSaid : Prop := Claim7.holds Tryd.pinned (.plain (OpenSpec.ofChange dratRightsSpec)) dratRightsCard

/-- THE TIED CARD OF 'bradawllaw06.DratJoins'. -/
def dratJoinsCard : Claim7 := { stood := { row := dratJoinsRow, standIns := [], harness := (true, "c53d6759c801e02e73c2716bf45bb1e9851371ce6852bc1db04ba1a3c537f551"), looks := true }, kinds := [], alts := [], laidByText := true, laidKinds := [.data, .data, .data, .data, .sentinel, .sentinel, .pinned], laidTests := true, laidLooks := .later }
def DratJoinsCardSaid : Prop := Claim7.holds Tryd.pinned (.plain (OpenSpec.ofChange dratJoinsSpec)) dratJoinsCard

/-- THE TIED CARD OF 'bradawllaw06.DratNumbers'. -/
def dratNumbersCard : Claim7 := { stood := { row := dratNumbersRow, standIns := [], harness := (true, "c53d6759c801e02e73c2716bf45bb1e9851371ce6852bc1db04ba1a3c537f551"), looks := true }, kinds := [], alts := [], laidByText := true, laidKinds := [.data, .data, .data, .data, .sentinel, .sentinel, .pinned], laidTests := true, laidLooks := .later }
def DratNumbersCardSaid : Prop := Claim7.holds Tryd.pinned (.plain (OpenSpec.ofChange dratNumbersSpec)) dratNumbersCard

/-- THE TIED CARD OF 'bradawllaw06.DratBack'. -/
def dratBackCard : Claim7 := { stood := { row := dratBackRow, standIns := [], harness := (true, "c53d6759c801e02e73c2716bf45bb1e9851371ce6852bc1db04ba1a3c537f551"), looks := true }, kinds := [], alts := [], laidByText := true, laidKinds := [.data, .data, .data, .data, .sentinel, .sentinel, .pinned], laidTests := true, laidLooks := .later }
def DratBackCardSaid : Prop := Claim7.holds Tryd.pinned (.plain (OpenSpec.ofChange dratBackSpec)) dratBackCard

/-- THE TIED CARD OF 'bradawllaw06.DratSames'. -/
def dratSamesCard : Claim7 := { stood := { row := dratSamesRow, standIns := [], harness := (true, "c53d6759c801e02e73c2716bf45bb1e9851371ce6852bc1db04ba1a3c537f551"), looks := true }, kinds := [], alts := [], laidByText := true, laidKinds := [.data, .data, .data, .data, .sentinel, .sentinel, .pinned], laidTests := true, laidLooks := .later }
def DratSamesCardSaid : Prop := Claim7.holds Tryd.pinned (.plain (OpenSpec.ofChange dratSamesSpec)) dratSamesCard

/-- THE SECOND FORM's CARD OF 'bradawllaw06.DratTexts'. -/
def dratTextsUptoCard : Claim7 := { stood := { row := dratTextsUptoRow, standIns := [], harness := (true, "c53d6759c801e02e73c2716bf45bb1e9851371ce6852bc1db04ba1a3c537f551"), looks := true }, kinds := [], alts := [], laidByText := true, laidKinds := [.data, .data, .data, .data, .sentinel, .sentinel, .pinned], laidTests := true, laidLooks := .later }
def DratTextsUptoCardSaid : Prop := Claim7.holds Tryd.pinned (.plain (OpenSpec.upto dratTextsSpec)) dratTextsUptoCard

/-- THE SECOND FORM's CARD OF 'bradawllaw06.DratBytes'. -/
def dratBytesUptoCard : Claim7 := { stood := { row := dratBytesUptoRow, standIns := [], harness := (true, "c53d6759c801e02e73c2716bf45bb1e9851371ce6852bc1db04ba1a3c537f551"), looks := true }, kinds := [], alts := [], laidByText := true, laidKinds := [.data, .data, .data, .data, .sentinel, .sentinel, .pinned], laidTests := true, laidLooks := .later }
def DratBytesUptoCardSaid : Prop := Claim7.holds Tryd.pinned (.plain (OpenSpec.upto dratBytesSpec)) dratBytesUptoCard

/-- THE SECOND FORM's CARD OF 'bradawllaw06.DratRights'. -/
def dratRightsUptoCard : Claim7 := { stood := { row := dratRightsUptoRow, standIns := [], harness := (true, "c53d6759c801e02e73c2716bf45bb1e9851371ce6852bc1db04ba1a3c537f551"), looks := true }, kinds := [], alts := [], laidByText := true, laidKinds := [.data, .data, .data, .data, .sentinel, .sentinel, .pinned], laidTests := true, laidLooks := .later }
def DratRightsUptoCardSaid : Prop := Claim7.holds Tryd.pinned (.plain (OpenSpec.upto dratRightsSpec)) dratRightsUptoCard

/-- THE SECOND FORM's CARD OF 'bradawllaw06.DratJoins'. -/
def dratJoinsUptoCard : Claim7 := { stood := { row := dratJoinsUptoRow, standIns := [], harness := (true, "c53d6759c801e02e73c2716bf45bb1e9851371ce6852bc1db04ba1a3c537f551"), looks := true }, kinds := [], alts := [], laidByText := true, laidKinds := [.data, .data, .data, .data, .sentinel, .sentinel, .pinned], laidTests := true, laidLooks := .later }
def DratJoinsUptoCardSaid : Prop := Claim7.holds Tryd.pinned (.plain (OpenSpec.upto dratJoinsSpec)) dratJoinsUptoCard

/-- THE SECOND FORM's CARD OF 'bradawllaw06.DratNumbers'. -/
def dratNumbersUptoCard : Claim7 := { stood := { row := dratNumbersUptoRow, standIns := [], harness := (true, "c53d6759c801e02e73c2716bf45bb1e9851371ce6852bc1db04ba1a3c537f551"), looks := true }, kinds := [], alts := [], laidByText := true, laidKinds := [.data, .data, .data, .data, .sentinel, .sentinel, .pinned], laidTests := true, laidLooks := .later }
def DratNumbersUptoCardSaid : Prop := Claim7.holds Tryd.pinned (.plain (OpenSpec.upto dratNumbersSpec)) dratNumbersUptoCard

/-- THE SECOND FORM's CARD OF 'bradawllaw06.DratBack'. -/
def dratBackUptoCard : Claim7 := { stood := { row := dratBackUptoRow, standIns := [], harness := (true, "c53d6759c801e02e73c2716bf45bb1e9851371ce6852bc1db04ba1a3c537f551"), looks := true }, kinds := [], alts := [], laidByText := true, laidKinds := [.data, .data, .data, .data, .sentinel, .sentinel, .pinned], laidTests := true, laidLooks := .later }
def DratBackUptoCardSaid : Prop := Claim7.holds Tryd.pinned (.plain (OpenSpec.upto dratBackSpec)) dratBackUptoCard

/-- THE SECOND FORM's CARD OF 'bradawllaw06.DratSames'. -/
def dratSamesUptoCard : Claim7 := { stood := { row := dratSamesUptoRow, standIns := [], harness := (true, "c53d6759c801e02e73c2716bf45bb1e9851371ce6852bc1db04ba1a3c537f551"), looks := true }, kinds := [], alts := [], laidByText := true, laidKinds := [.data, .data, .data, .data, .sentinel, .sentinel, .pinned], laidTests := true, laidLooks := .later }
def DratSamesUptoCardSaid : Prop := Claim7.holds Tryd.pinned (.plain (OpenSpec.upto dratSamesSpec)) dratSamesUptoCard
end Rows
end Go.Proofs.YtefppfgcgcfleaaDoor
