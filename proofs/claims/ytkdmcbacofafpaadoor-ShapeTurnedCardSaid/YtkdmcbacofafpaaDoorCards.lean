/-
  DERIVED. GIVEN WITH THE SEED: THE CARDS: each row of YtkdmcbacofafpaaDoorRows.lean that lists a variable, with what it lists TIED to the program's text (the seventh form; the later family's looks); each row that meets fmt, with fmt's text TOLD by the authors' own Lean function (tested against real Go, not proved from fmt's source: count such statements apart). THE CARD IS WHAT COUNTS. Prove the row's statement (the work); the ties are given (YtkdmcbacofafpaaDoorTie.lean); close each card by the builder's one call (the guide's Derived/Test/ToyasCard.lean, 'card_holds'). Laid BY PROGRAM, IN A SANDBOX (cutbox-door.mjs). By AI agents, Wed Nov 11 2026. No macro, syntax, notation, axiom, sorry.
-/
import Derived.Test.YtkdmcbacofafpaaDoorRows
import GoSem.ClaimSeven
namespace Go.Proofs.YtkdmcbacofafpaaDoor
namespace Rows

/-- THE TIED CARD OF 'bramblelaw11.ShapeTells'. -/
def shapeTellsCard : Claim7 := { stood := { row := shapeTellsRow, standIns := [], harness := (true, "9ff9561c1a00305e0d77d98eefdfe3462246cb42631a1ca6ed888658d6ad0af8"), looks := false }, kinds := [], alts := [], laidByText := true, laidKinds := [.data, .data], laidTests := true, laidLooks := .later }
def ShapeTellsCardSaid : Prop := Claim7.holds Tryd.pinned (.plain (OpenSpec.ofChange shapeTellsSpec)) shapeTellsCard

/-- THE TIED CARD OF 'bramblelaw11.ShapeTurned'. -/
def shapeTurnedCard : Claim7 := { stood := { row := shapeTurnedRow, standIns := [], harness := (true, "9ff9561c1a00305e0d77d98eefdfe3462246cb42631a1ca6ed888658d6ad0af8"), looks := false }, kinds := [], alts := [], laidByText := true, laidKinds := [.data, .data], laidTests := true, laidLooks := .later }
def ShapeTurnedCardSaid : Prop := Claim7.holds Tryd.pinned (.plain (OpenSpec.ofChange shapeTurnedSpec)) shapeTurnedCard

/-- THE TIED CARD OF 'bramblelaw11.ShapeCounts'. -/
def shapeCountsCard : Claim7 := { stood := { row := shapeCountsRow, standIns := [], harness := (true, "9ff9561c1a00305e0d77d98eefdfe3462246cb42631a1ca6ed888658d6ad0af8"), looks := false }, kinds := [], alts := [], laidByText := true, laidKinds := [.data, .data], laidTests := true, laidLooks := .later }
def ShapeCountsCardSaid : Prop := Claim7.holds Tryd.pinned (.plain (OpenSpec.ofChange shapeCountsSpec)) shapeCountsCard

/-- THE TIED CARD OF 'bramblelaw11.ShapeValues'. -/
def shapeValuesCard : Claim7 := { stood := { row := shapeValuesRow, standIns := [], harness := (true, "9ff9561c1a00305e0d77d98eefdfe3462246cb42631a1ca6ed888658d6ad0af8"), looks := false }, kinds := [], alts := [], laidByText := true, laidKinds := [.data, .data], laidTests := true, laidLooks := .later }
def ShapeValuesCardSaid : Prop := Claim7.holds Tryd.pinned (.plain (OpenSpec.ofChange shapeValuesSpec)) shapeValuesCard

/-- THE TIED CARD OF 'bramblelaw11.ShapeLeaves'. -/
def shapeLeavesCard : Claim7 := { stood := { row := shapeLeavesRow, standIns := [], harness := (true, "9ff9561c1a00305e0d77d98eefdfe3462246cb42631a1ca6ed888658d6ad0af8"), looks := false }, kinds := [], alts := [], laidByText := true, laidKinds := [.data, .data], laidTests := true, laidLooks := .later }
def ShapeLeavesCardSaid : Prop := Claim7.holds Tryd.pinned (.plain (OpenSpec.ofChange shapeLeavesSpec)) shapeLeavesCard

/-- THE SECOND FORM's CARD OF 'bramblelaw11.ShapeTells'. -/
def shapeTellsUptoCard : Claim7 := { stood := { row := shapeTellsUptoRow, standIns := [], harness := (true, "9ff9561c1a00305e0d77d98eefdfe3462246cb42631a1ca6ed888658d6ad0af8"), looks := false }, kinds := [], alts := [], laidByText := true, laidKinds := [.data, .data], laidTests := true, laidLooks := .later }
def ShapeTellsUptoCardSaid : Prop := Claim7.holds Tryd.pinned (.plain (OpenSpec.upto shapeTellsSpec)) shapeTellsUptoCard

/-- THE SECOND FORM's CARD OF 'bramblelaw11.ShapeTurned'. -/
def shapeTurnedUptoCard : Claim7 := { stood := { row := shapeTurnedUptoRow, standIns := [], harness := (true, "9ff9561c1a00305e0d77d98eefdfe3462246cb42631a1ca6ed888658d6ad0af8"), looks := false }, kinds := [], alts := [], laidByText := true, laidKinds := [.data, .data], laidTests := true, laidLooks := .later }
def ShapeTurnedUptoCardSaid : Prop := Claim7.holds Tryd.pinned (.plain (OpenSpec.upto shapeTurnedSpec)) shapeTurnedUptoCard

/-- THE SECOND FORM's CARD OF 'bramblelaw11.ShapeCounts'. -/
def shapeCountsUptoCard : Claim7 := { stood := { row := shapeCountsUptoRow, standIns := [], harness := (true, "9ff9561c1a00305e0d77d98eefdfe3462246cb42631a1ca6ed888658d6ad0af8"), looks := false }, kinds := [], alts := [], laidByText := true, laidKinds := [.data, .data], laidTests := true, laidLooks := .later }
def ShapeCountsUptoCardSaid : Prop := Claim7.holds Tryd.pinned (.plain (OpenSpec.upto shapeCountsSpec)) shapeCountsUptoCard

/-- THE SECOND FORM's CARD OF 'bramblelaw11.ShapeValues'. -/
def shapeValuesUptoCard : Claim7 := { stood := { row := shapeValuesUptoRow, standIns := [], harness := (true, "9ff9561c1a00305e0d77d98eefdfe3462246cb42631a1ca6ed888658d6ad0af8"), looks := false }, kinds := [], alts := [], laidByText := true, laidKinds := [.data, .data], laidTests := true, laidLooks := .later }
def ShapeValuesUptoCardSaid : Prop := Claim7.holds Tryd.pinned (.plain (OpenSpec.upto shapeValuesSpec)) shapeValuesUptoCard

/-- THE SECOND FORM's CARD OF 'bramblelaw11.ShapeLeaves'. -/
def shapeLeavesUptoCard : Claim7 := { stood := { row := shapeLeavesUptoRow, standIns := [], harness := (true, "9ff9561c1a00305e0d77d98eefdfe3462246cb42631a1ca6ed888658d6ad0af8"), looks := false }, kinds := [], alts := [], laidByText := true, laidKinds := [.data, .data], laidTests := true, laidLooks := .later }
def ShapeLeavesUptoCardSaid : Prop := Claim7.holds Tryd.pinned (.plain (OpenSpec.upto shapeLeavesSpec)) shapeLeavesUptoCard
end Rows
end Go.Proofs.YtkdmcbacofafpaaDoor
