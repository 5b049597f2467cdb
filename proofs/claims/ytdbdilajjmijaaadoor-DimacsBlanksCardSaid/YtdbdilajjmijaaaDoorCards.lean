/-
  DERIVED. GIVEN WITH THE SEED: THE CARDS: each row of YtdbdilajjmijaaaDoorRows.lean that lists a variable, with what it lists TIED to the program's text (the seventh form; the later family's looks); each row that meets fmt, with fmt's text TOLD by the authors' own Lean function (tested against real Go, not proved from fmt's source: count such statements apart). THE CARD IS WHAT COUNTS. Prove the row's statement (the work); the ties are given (YtdbdilajjmijaaaDoorTie.lean); close each card by the builder's one call (the guide's Derived/Test/ToyasCard.lean, 'card_holds'). Laid BY PROGRAM, IN A SANDBOX (cutbox-door.mjs). By AI agents, Wed Nov 11 2026. No macro, syntax, notation, axiom, sorry.
-/
import Derived.Test.YtdbdilajjmijaaaDoorRows
import GoSem.ClaimSeven
namespace Go.Proofs.YtdbdilajjmijaaaDoor
namespace Rows

/-- THE TIED CARD OF 'bradawllaw03.DimacsBack'. -/
def dimacsBackCard : Claim7 := { stood := { row := dimacsBackRow, standIns := [], harness := (true, "f1b36097ca12436d15b15d37eb4c4221f60cd1f325fd56da2a168cc9b9197e98"), looks := true }, kinds := [], alts := [], laidByText := true, laidKinds := [.data, .data, .data, .data, .pinned], laidTests := true, laidLooks := .later }
def DimacsBackCardSaid : Prop := Claim7.holds Tryd.pinned (.plain (OpenSpec.ofChange dimacsBackSpec)) dimacsBackCard

/-- THE TIED CARD OF 'bradawllaw03.DimacsBlanks'. -/
def dimacsBlanksCard : Claim7 := { stood := { row := dimacsBlanksRow, standIns := [], harness := (true, "f1b36097ca12436d15b15d37eb4c4221f60cd1f325fd56da2a168cc9b9197e98"), looks := true }, kinds := [], alts := [], laidByText := true, laidKinds := [.data, .data, .data, .data, .pinned], laidTests := true, laidLooks := .later }
def DimacsBlanksCardSaid : Prop := Claim7.holds Tryd.pinned (.plain (OpenSpec.ofChange dimacsBlanksSpec)) dimacsBlanksCard

/-- THE TIED CARD OF 'bradawllaw03.DimacsLines'. -/
def dimacsLinesCard : Claim7 := { stood := { row := dimacsLinesRow, standIns := [], harness := (true, "f1b36097ca12436d15b15d37eb4c4221f60cd1f325fd56da2a168cc9b9197e98"), looks := true }, kinds := [], alts := [], laidByText := true, laidKinds := [.data, .data, .data, .data, .handle, .pinned], laidTests := true, laidLooks := .later }
def DimacsLinesCardSaid : Prop := Claim7.holds Tryd.pinned (.plain (OpenSpec.ofChange dimacsLinesSpec)) dimacsLinesCard

/-- THE TIED CARD OF 'bradawllaw03.DimacsHeaders'. -/
def dimacsHeadersCard : Claim7 := { stood := { row := dimacsHeadersRow, standIns := [], harness := (true, "f1b36097ca12436d15b15d37eb4c4221f60cd1f325fd56da2a168cc9b9197e98"), looks := true }, kinds := [], alts := [], laidByText := true, laidKinds := [.data, .data, .data, .data, .handle, .sentinel, .sentinel, .pinned], laidTests := true, laidLooks := .later }
def DimacsHeadersCardSaid : Prop := Claim7.holds Tryd.pinned (.plain (OpenSpec.ofChange dimacsHeadersSpec)) dimacsHeadersCard

/-- THE TIED CARD OF 'bradawllaw03.DimacsParses'. -/
def dimacsParsesCard : Claim7 := { stood := { row := dimacsParsesRow, standIns := [], harness := (true, "f1b36097ca12436d15b15d37eb4c4221f60cd1f325fd56da2a168cc9b9197e98"), looks := true }, kinds := [], alts := [], laidByText := true, laidKinds := [.data, .data, .data, .data, .handle, .sentinel, .sentinel, .pinned], laidTests := true, laidLooks := .later }
def DimacsParsesCardSaid : Prop := Claim7.holds Tryd.pinned (.plain (OpenSpec.ofChange dimacsParsesSpec)) dimacsParsesCard

/-- THE SECOND FORM's CARD OF 'bradawllaw03.DimacsBack'. -/
def dimacsBackUptoCard : Claim7 := { stood := { row := dimacsBackUptoRow, standIns := [], harness := (true, "f1b36097ca12436d15b15d37eb4c4221f60cd1f325fd56da2a168cc9b9197e98"), looks := true }, kinds := [], alts := [], laidByText := true, laidKinds := [.data, .data, .data, .data, .pinned], laidTests := true, laidLooks := .later }
def DimacsBackUptoCardSaid : Prop := Claim7.holds Tryd.pinned (.plain (OpenSpec.upto dimacsBackSpec)) dimacsBackUptoCard

/-- THE SECOND FORM's CARD OF 'bradawllaw03.DimacsBlanks'. -/
def dimacsBlanksUptoCard : Claim7 := { stood := { row := dimacsBlanksUptoRow, standIns := [], harness := (true, "f1b36097ca12436d15b15d37eb4c4221f60cd1f325fd56da2a168cc9b9197e98"), looks := true }, kinds := [], alts := [], laidByText := true, laidKinds := [.data, .data, .data, .data, .pinned], laidTests := true, laidLooks := .later }
def DimacsBlanksUptoCardSaid : Prop := Claim7.holds Tryd.pinned (.plain (OpenSpec.upto dimacsBlanksSpec)) dimacsBlanksUptoCard

/-- THE SECOND FORM's CARD OF 'bradawllaw03.DimacsLines'. -/
def dimacsLinesUptoCard : Claim7 := { stood := { row := dimacsLinesUptoRow, standIns := [], harness := (true, "f1b36097ca12436d15b15d37eb4c4221f60cd1f325fd56da2a168cc9b9197e98"), looks := true }, kinds := [], alts := [], laidByText := true, laidKinds := [.data, .data, .data, .data, .handle, .pinned], laidTests := true, laidLooks := .later }
def DimacsLinesUptoCardSaid : Prop := Claim7.holds Tryd.pinned (.plain (OpenSpec.upto dimacsLinesSpec)) dimacsLinesUptoCard

/-- THE SECOND FORM's CARD OF 'bradawllaw03.DimacsHeaders'. -/
def dimacsHeadersUptoCard : Claim7 := { stood := { row := dimacsHeadersUptoRow, standIns := [], harness := (true, "f1b36097ca12436d15b15d37eb4c4221f60cd1f325fd56da2a168cc9b9197e98"), looks := true }, kinds := [], alts := [], laidByText := true, laidKinds := [.data, .data, .data, .data, .handle, .sentinel, .sentinel, .pinned], laidTests := true, laidLooks := .later }
def DimacsHeadersUptoCardSaid : Prop := Claim7.holds Tryd.pinned (.plain (OpenSpec.upto dimacsHeadersSpec)) dimacsHeadersUptoCard

/-- THE SECOND FORM's CARD OF 'bradawllaw03.DimacsParses'. -/
def dimacsParsesUptoCard : Claim7 := { stood := { row := dimacsParsesUptoRow, standIns := [], harness := (true, "f1b36097ca12436d15b15d37eb4c4221f60cd1f325fd56da2a168cc9b9197e98"), looks := true }, kinds := [], alts := [], laidByText := true, laidKinds := [.data, .data, .data, .data, .handle, .sentinel, .sentinel, .pinned], laidTests := true, laidLooks := .later }
def DimacsParsesUptoCardSaid : Prop := Claim7.holds Tryd.pinned (.plain (OpenSpec.upto dimacsParsesSpec)) dimacsParsesUptoCard
end Rows
end Go.Proofs.YtdbdilajjmijaaaDoor
