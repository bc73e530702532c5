/-
  DERIVED. GIVEN WITH THE SEED: THE CARDS: each row of YtkcabichlinkmaaGreatDoorRows.lean that lists a variable, with what it lists TIED to the program's text (the seventh form; the later family's looks); each row that meets fmt, with fmt's text TOLD by the authors' own Lean function (tested against real Go, not proved from fmt's source: count such statements apart). THE CARD IS WHAT COUNTS. Prove the row's statement (the work); the ties are given (YtkcabichlinkmaaGreatDoorTie.lean); close each card by the builder's one call (the guide's Derived/Test/ToyasCard.lean, 'card_holds'). Laid BY PROGRAM, IN A SANDBOX (cutbox-door.mjs). By AI agents, Wed Nov 11 2026. No macro, syntax, notation, axiom, sorry.
-/
import Derived.Test.YtkcabichlinkmaaGreatDoorRows
import GoSem.ClaimSeven
namespace Go.Proofs.YtkcabichlinkmaaGreatDoor
namespace Rows

/-- THE TIED CARD OF 'daybooklaw19.ShapeReads'. -/
def shapeReadsCard : Claim7 := { stood := { row := shapeReadsRow, standIns := [], harness := (true, "d566994fe3ac672ea27cd8aa59d2850f3f599cc27b8588a761e14fcae022b563"), looks := true }, kinds := [], alts := [], laidByText := true, laidKinds := [.data, .data, .data, .sentinel, .sentinel], laidTests := true, laidLooks := .later }
def ShapeReadsCardSaid : Prop := Claim7.holds Tryz.pinned (.plain (OpenSpec.ofChange shapeReadsSpec)) shapeReadsCard

/-- THE TIED CARD OF 'daybooklaw19.ShapeLess'. -/
def shapeLessCard : Claim7 := { stood := { row := shapeLessRow, standIns := [], harness := (true, "d566994fe3ac672ea27cd8aa59d2850f3f599cc27b8588a761e14fcae022b563"), looks := true }, kinds := [], alts := [], laidByText := true, laidKinds := [.data, .data, .data, .sentinel, .sentinel], laidTests := true, laidLooks := .later }
def ShapeLessCardSaid : Prop := Claim7.holds Tryz.pinned (.plain (OpenSpec.ofChange shapeLessSpec)) shapeLessCard

/-- THE TIED CARD OF 'daybooklaw19.ShapeBack'. -/
def shapeBackCard : Claim7 := { stood := { row := shapeBackRow, standIns := [], harness := (true, "d566994fe3ac672ea27cd8aa59d2850f3f599cc27b8588a761e14fcae022b563"), looks := true }, kinds := [], alts := [], laidByText := true, laidKinds := [.data, .data, .data, .sentinel, .sentinel], laidTests := true, laidLooks := .later }
def ShapeBackCardSaid : Prop := Claim7.holds Tryz.pinned (.plain (OpenSpec.ofChange shapeBackSpec)) shapeBackCard

/-- THE TIED CARD OF 'daybooklaw19.ShapeNames'. -/
def shapeNamesCard : Claim7 := { stood := { row := shapeNamesRow, standIns := [], harness := (true, "d566994fe3ac672ea27cd8aa59d2850f3f599cc27b8588a761e14fcae022b563"), looks := true }, kinds := [], alts := [], laidByText := true, laidKinds := [.data, .data, .data, .sentinel, .sentinel], laidTests := true, laidLooks := .later }
def ShapeNamesCardSaid : Prop := Claim7.holds Tryz.pinned (.plain (OpenSpec.ofChange shapeNamesSpec)) shapeNamesCard

/-- THE TIED CARD OF 'daybooklaw20.PullEnds'. -/
def pullEndsCard : Claim7 := { stood := { row := pullEndsRow, standIns := [], harness := (true, "d566994fe3ac672ea27cd8aa59d2850f3f599cc27b8588a761e14fcae022b563"), looks := true }, kinds := [], alts := [], laidByText := true, laidKinds := [.data, .data, .data, .sentinel, .sentinel], laidTests := true, laidLooks := .later }
def PullEndsCardSaid : Prop := Claim7.holds Tryz.pinned (.plain (OpenSpec.ofChange pullEndsSpec)) pullEndsCard

/-- THE TIED CARD OF 'daybooklaw20.PullPlain'. -/
def pullPlainCard : Claim7 := { stood := { row := pullPlainRow, standIns := [], harness := (true, "d566994fe3ac672ea27cd8aa59d2850f3f599cc27b8588a761e14fcae022b563"), looks := true }, kinds := [], alts := [], laidByText := true, laidKinds := [.data, .data, .data, .sentinel, .sentinel], laidTests := true, laidLooks := .later }
def PullPlainCardSaid : Prop := Claim7.holds Tryz.pinned (.plain (OpenSpec.ofChange pullPlainSpec)) pullPlainCard

/-- THE TIED CARD OF 'daybooklaw20.PullNames'. -/
def pullNamesCard : Claim7 := { stood := { row := pullNamesRow, standIns := [], harness := (true, "d566994fe3ac672ea27cd8aa59d2850f3f599cc27b8588a761e14fcae022b563"), looks := true }, kinds := [], alts := [], laidByText := true, laidKinds := [.data, .data, .data, .sentinel, .sentinel], laidTests := true, laidLooks := .later }
def PullNamesCardSaid : Prop := Claim7.holds Tryz.pinned (.plain (OpenSpec.ofChange pullNamesSpec)) pullNamesCard

/-- THE TIED CARD OF 'daybooklaw20.PullBack'. -/
def pullBackCard : Claim7 := { stood := { row := pullBackRow, standIns := [], harness := (true, "d566994fe3ac672ea27cd8aa59d2850f3f599cc27b8588a761e14fcae022b563"), looks := true }, kinds := [], alts := [], laidByText := true, laidKinds := [.data, .data, .data, .sentinel, .sentinel], laidTests := true, laidLooks := .later }
def PullBackCardSaid : Prop := Claim7.holds Tryz.pinned (.plain (OpenSpec.ofChange pullBackSpec)) pullBackCard

/-- THE SECOND FORM's CARD OF 'daybooklaw19.ShapeReads'. -/
def shapeReadsUptoCard : Claim7 := { stood := { row := shapeReadsUptoRow, standIns := [], harness := (true, "d566994fe3ac672ea27cd8aa59d2850f3f599cc27b8588a761e14fcae022b563"), looks := true }, kinds := [], alts := [], laidByText := true, laidKinds := [.data, .data, .data, .sentinel, .sentinel], laidTests := true, laidLooks := .later }
def ShapeReadsUptoCardSaid : Prop := Claim7.holds Tryz.pinned (.plain (OpenSpec.upto shapeReadsSpec)) shapeReadsUptoCard

/-- THE SECOND FORM's CARD OF 'daybooklaw19.ShapeLess'. -/
def shapeLessUptoCard : Claim7 := { stood := { row := shapeLessUptoRow, standIns := [], harness := (true, "d566994fe3ac672ea27cd8aa59d2850f3f599cc27b8588a761e14fcae022b563"), looks := true }, kinds := [], alts := [], laidByText := true, laidKinds := [.data, .data, .data, .sentinel, .sentinel], laidTests := true, laidLooks := .later }
def ShapeLessUptoCardSaid : Prop := Claim7.holds Tryz.pinned (.plain (OpenSpec.upto shapeLessSpec)) shapeLessUptoCard

/-- THE SECOND FORM's CARD OF 'daybooklaw19.ShapeBack'. -/
def shapeBackUptoCard : Claim7 := { stood := { row := shapeBackUptoRow, standIns := [], harness := (true, "d566994fe3ac672ea27cd8aa59d2850f3f599cc27b8588a761e14fcae022b563"), looks := true }, kinds := [], alts := [], laidByText := true, laidKinds := [.data, .data, .data, .sentinel, .sentinel], laidTests := true, laidLooks := .later }
def ShapeBackUptoCardSaid : Prop := Claim7.holds Tryz.pinned (.plain (OpenSpec.upto shapeBackSpec)) shapeBackUptoCard

/-- THE SECOND FORM's CARD OF 'daybooklaw19.ShapeNames'. -/
def shapeNamesUptoCard : Claim7 := { stood := { row := shapeNamesUptoRow, standIns := [], harness := (true, "d566994fe3ac672ea27cd8aa59d2850f3f599cc27b8588a761e14fcae022b563"), looks := true }, kinds := [], alts := [], laidByText := true, laidKinds := [.data, .data, .data, .sentinel, .sentinel], laidTests := true, laidLooks := .later }
def ShapeNamesUptoCardSaid : Prop := Claim7.holds Tryz.pinned (.plain (OpenSpec.upto shapeNamesSpec)) shapeNamesUptoCard

/-- THE SECOND FORM's CARD OF 'daybooklaw20.PullEnds'. -/
def pullEndsUptoCard : Claim7 := { stood := { row := pullEndsUptoRow, standIns := [], harness := (true, "d566994fe3ac672ea27cd8aa59d2850f3f599cc27b8588a761e14fcae022b563"), looks := true }, kinds := [], alts := [], laidByText := true, laidKinds := [.data, .data, .data, .sentinel, .sentinel], laidTests := true, laidLooks := .later }
def PullEndsUptoCardSaid : Prop := Claim7.holds Tryz.pinned (.plain (OpenSpec.upto pullEndsSpec)) pullEndsUptoCard

/-- THE SECOND FORM's CARD OF 'daybooklaw20.PullPlain'. -/
def pullPlainUptoCard : Claim7 := { stood := { row := pullPlainUptoRow, standIns := [], harness := (true, "d566994fe3ac672ea27cd8aa59d2850f3f599cc27b8588a761e14fcae022b563"), looks := true }, kinds := [], alts := [], laidByText := true, laidKinds := [.data, .data, .data, .sentinel, .sentinel], laidTests := true, laidLooks := .later }
def PullPlainUptoCardSaid : Prop := Claim7.holds Tryz.pinned (.plain (OpenSpec.upto pullPlainSpec)) pullPlainUptoCard

/-- THE SECOND FORM's CARD OF 'daybooklaw20.PullNames'. -/
def pullNamesUptoCard : Claim7 := { stood := { row := pullNamesUptoRow, standIns := [], harness := (true, "d566994fe3ac672ea27cd8aa59d2850f3f599cc27b8588a761e14fcae022b563"), looks := true }, kinds := [], alts := [], laidByText := true, laidKinds := [.data, .data, .data, .sentinel, .sentinel], laidTests := true, laidLooks := .later }
def PullNamesUptoCardSaid : Prop := Claim7.holds Tryz.pinned (.plain (OpenSpec.upto pullNamesSpec)) pullNamesUptoCard

/-- THE SECOND FORM's CARD OF 'daybooklaw20.PullBack'. -/
def pullBackUptoCard : Claim7 := { stood := { row := pullBackUptoRow, standIns := [], harness := (true, "d566994fe3ac672ea27cd8aa59d2850f3f599cc27b8588a761e14fcae022b563"), looks := true }, kinds := [], alts := [], laidByText := true, laidKinds := [.data, .data, .data, .sentinel, .sentinel], laidTests := true, laidLooks := .later }
def PullBackUptoCardSaid : Prop := Claim7.holds Tryz.pinned (.plain (OpenSpec.upto pullBackSpec)) pullBackUptoCard
end Rows
end Go.Proofs.YtkcabichlinkmaaGreatDoor
