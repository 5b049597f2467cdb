/-
  DERIVED. GIVEN WITH THE SEED: THE CARDS: each row of YtopoejfbcbnmdaaDoorRows.lean that lists a variable, with what it lists TIED to the program's text (the seventh form; the later family's looks); each row that meets fmt, with fmt's text TOLD by the authors' own Lean function (tested against real Go, not proved from fmt's source: count such statements apart). THE CARD IS WHAT COUNTS. Prove the row's statement (the work); the ties are given (YtopoejfbcbnmdaaDoorTie.lean); close each card by the builder's one call (the guide's Derived/Test/ToyasCard.lean, 'card_holds'). Laid BY PROGRAM, IN A SANDBOX (cutbox-door.mjs). By AI agents, Wed Nov 11 2026. No macro, syntax, notation, axiom, sorry.
-/
import Derived.Test.YtopoejfbcbnmdaaDoorRows
import GoSem.ClaimSeven
namespace Go.Proofs.YtopoejfbcbnmdaaDoor
namespace Rows

/-- THE TIED CARD OF 'bradawllaw21.OptsSets'. -/
def optsSetsCard : Claim7 := { stood := { row := optsSetsRow, standIns := [], harness := (true, "6ec980cf219857092220ca25a1eb6069bbfce12a78880633009b1ac00ef6e4da"), looks := true }, kinds := [], alts := [], laidByText := true, laidKinds := [.handle], laidTests := true, laidLooks := .later }
def OptsSetsCardSaid : Prop := Claim7.holds Tryd.pinned (.plain (OpenSpec.ofChange optsSetsSpec)) optsSetsCard

/-- THE TIED CARD OF 'bradawllaw21.OptsDefaults'. -/
def optsDefaultsCard : Claim7 := { stood := { row := optsDefaultsRow, standIns := [], harness := (true, "6ec980cf219857092220ca25a1eb6069bbfce12a78880633009b1ac00ef6e4da"), looks := true }, kinds := [], alts := [], laidByText := true, laidKinds := [.handle], laidTests := true, laidLooks := .later }
def OptsDefaultsCardSaid : Prop := Claim7.holds Tryd.pinned (.plain (OpenSpec.ofChange optsDefaultsSpec)) optsDefaultsCard

/-- THE TIED CARD OF 'bradawllaw21.OptsTimes'. -/
def optsTimesCard : Claim7 := { stood := { row := optsTimesRow, standIns := [], harness := (true, "6ec980cf219857092220ca25a1eb6069bbfce12a78880633009b1ac00ef6e4da"), looks := true }, kinds := [], alts := [], laidByText := true, laidKinds := [.handle], laidTests := true, laidLooks := .later }
def OptsTimesCardSaid : Prop := Claim7.holds Tryd.pinned (.plain (OpenSpec.ofChange optsTimesSpec)) optsTimesCard

/-- THE TIED CARD OF 'bradawllaw21.OptsRestarts'. -/
def optsRestartsCard : Claim7 := { stood := { row := optsRestartsRow, standIns := [], harness := (true, "6ec980cf219857092220ca25a1eb6069bbfce12a78880633009b1ac00ef6e4da"), looks := true }, kinds := [], alts := [], laidByText := true, laidKinds := [.handle], laidTests := true, laidLooks := .later }
def OptsRestartsCardSaid : Prop := Claim7.holds Tryd.pinned (.plain (OpenSpec.ofChange optsRestartsSpec)) optsRestartsCard

/-- THE TIED CARD OF 'bradawllaw21.OptsChecks'. -/
def optsChecksCard : Claim7 := { stood := { row := optsChecksRow, standIns := [], harness := (true, "6ec980cf219857092220ca25a1eb6069bbfce12a78880633009b1ac00ef6e4da"), looks := true }, kinds := [], alts := [], laidByText := true, laidKinds := [.handle], laidTests := true, laidLooks := .later }
def OptsChecksCardSaid : Prop := Claim7.holds Tryd.pinned (.plain (OpenSpec.ofChange optsChecksSpec)) optsChecksCard

/-- THE SECOND FORM's CARD OF 'bradawllaw21.OptsSets'. -/
def optsSetsUptoCard : Claim7 := { stood := { row := optsSetsUptoRow, standIns := [], harness := (true, "6ec980cf219857092220ca25a1eb6069bbfce12a78880633009b1ac00ef6e4da"), looks := true }, kinds := [], alts := [], laidByText := true, laidKinds := [.handle], laidTests := true, laidLooks := .later }
def OptsSetsUptoCardSaid : Prop := Claim7.holds Tryd.pinned (.plain (OpenSpec.upto optsSetsSpec)) optsSetsUptoCard

/-- THE SECOND FORM's CARD OF 'bradawllaw21.OptsDefaults'. -/
def optsDefaultsUptoCard : Claim7 := { stood := { row := optsDefaultsUptoRow, standIns := [], harness := (true, "6ec980cf219857092220ca25a1eb6069bbfce12a78880633009b1ac00ef6e4da"), looks := true }, kinds := [], alts := [], laidByText := true, laidKinds := [.handle], laidTests := true, laidLooks := .later }
def OptsDefaultsUptoCardSaid : Prop := Claim7.holds Tryd.pinned (.plain (OpenSpec.upto optsDefaultsSpec)) optsDefaultsUptoCard

/-- THE SECOND FORM's CARD OF 'bradawllaw21.OptsTimes'. -/
def optsTimesUptoCard : Claim7 := { stood := { row := optsTimesUptoRow, standIns := [], harness := (true, "6ec980cf219857092220ca25a1eb6069bbfce12a78880633009b1ac00ef6e4da"), looks := true }, kinds := [], alts := [], laidByText := true, laidKinds := [.handle], laidTests := true, laidLooks := .later }
def OptsTimesUptoCardSaid : Prop := Claim7.holds Tryd.pinned (.plain (OpenSpec.upto optsTimesSpec)) optsTimesUptoCard

/-- THE SECOND FORM's CARD OF 'bradawllaw21.OptsRestarts'. -/
def optsRestartsUptoCard : Claim7 := { stood := { row := optsRestartsUptoRow, standIns := [], harness := (true, "6ec980cf219857092220ca25a1eb6069bbfce12a78880633009b1ac00ef6e4da"), looks := true }, kinds := [], alts := [], laidByText := true, laidKinds := [.handle], laidTests := true, laidLooks := .later }
def OptsRestartsUptoCardSaid : Prop := Claim7.holds Tryd.pinned (.plain (OpenSpec.upto optsRestartsSpec)) optsRestartsUptoCard

/-- THE SECOND FORM's CARD OF 'bradawllaw21.OptsChecks'. -/
def optsChecksUptoCard : Claim7 := { stood := { row := optsChecksUptoRow, standIns := [], harness := (true, "6ec980cf219857092220ca25a1eb6069bbfce12a78880633009b1ac00ef6e4da"), looks := true }, kinds := [], alts := [], laidByText := true, laidKinds := [.handle], laidTests := true, laidLooks := .later }
def OptsChecksUptoCardSaid : Prop := Claim7.holds Tryd.pinned (.plain (OpenSpec.upto optsChecksSpec)) optsChecksUptoCard
end Rows
end Go.Proofs.YtopoejfbcbnmdaaDoor
