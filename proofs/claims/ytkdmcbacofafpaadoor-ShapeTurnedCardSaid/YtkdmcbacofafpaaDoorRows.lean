/-
  NARROWER THAN 'FOR EVERY INPUT', by the rows' own cells (each row's printed sentence says how): ShapeTells: laid · ShapeTurned: laid · ShapeCounts: laid · ShapeValues: laid · ShapeLeaves: laid.
  DERIVED. THE GIVEN ROWS OF THIS SEAT. 5 by the template 'for every input the law returns true; each argument reads behind the call as it read before'; 0 by the template 'total and deterministic' (their statements: YtkdmcbacofafpaaDoorTotals.lean).
  GIVEN WITH THE SEED: the statements are not yours to turn. If you find one false, say at which input.
  Laid BY PROGRAM, IN A SANDBOX (cutbox-rows.mjs): the forced cells as the released guide's own fill.sh prints them over the translation 64b192ae702f3cf9… (all of the seat's roots in one cut). By AI agents, Wed Nov 11 2026. No macro, syntax, notation, axiom, sorry.
-/
import Derived.Test.YtkdmcbacofafpaaDoorChecked
import GoSem.Claim
import GoSem.ClaimJoined
import GoSem.ClaimMapViews
import Derived.JoinedTies
import Derived.KernelRfl
namespace Go.Proofs.YtkdmcbacofafpaaDoor
/- THE CELL 'sum', in the pinned program and in every row, IS THE sha256 OF THE DUMP (.gsa) THAT YtkdmcbacofafpaaDoorProg.lean LOADS. Nothing in Lean hashes anything: it is a label: what it is worth is what the hold of that sum in a sandbox is worth. -/
noncomputable def Tryd.pinned : Pinned := { name := "ytkdmcbacofafpaadoor", sum := "64b192ae702f3cf95534e284ced97dba5d2d65ee84f3bd9a2315d92e5d44be12", checked := Tryd.checked }
namespace Rows
def none {H : Type} : Left H := { results := [], args := [] }

/- WHAT THE LISTED PACKAGE-LEVEL VARIABLES READ AS WHEN THE CALL BEGINS. Each datum BY PROGRAM (the guide's laid-datum.mjs) off the statement by which the dump's own 'gosem.cut.vars' lays the variable. In a bare row this is a premise. The card (YtkdmcbacofafpaaDoorCards.lean) ties it to the program's text. -/
def laid_bramble_shape_fewest {H : Type} : DataW H := .agg [.lit (.int .i64 0), .lit (.int .i64 4), .lit (.int .i64 13), .lit (.int .i64 41)]
def laid_bramble_shape_most {H : Type} : DataW H := .agg [.lit (.int .i64 4), .lit (.int .i64 16), .lit (.int .i64 48), .lit (.int .i64 256)]

/-- 'bramblelaw11.ShapeTells': WHATEVER THE INPUT: true; the input reads as it did. -/
def shapeTellsSpec : ChangeSpec := { name := "shapeTells", fn := fun _ => fun
  | [d1, d2] => { results := [.lit (.bool true)], args := [d1, d2] }
  | _ => none }
def shapeTellsRow : OpenClaim := { program := "ytkdmcbacofafpaadoor", sum := "64b192ae702f3cf95534e284ced97dba5d2d65ee84f3bd9a2315d92e5d44be12", func := "bramble/bramblelaw11.ShapeTells", spec := "shapeTells", inPlace := ["internal/bytealg.Compare"], unfollowed := true, recurses := true, named := ["bramble/shape.fewest", "bramble/shape.most"], apart := false, laid := [("bramble/shape.fewest", laid_bramble_shape_fewest), ("bramble/shape.most", laid_bramble_shape_most)] }
def ShapeTellsSaid : Prop := shapeTellsRow.holds Tryd.pinned (OpenSpec.ofChange shapeTellsSpec)

/-- ITS FALSE NEIGHBOUR: 'it returns false'. Refute it at one input. -/
def shapeTellsWrong : ChangeSpec := { name := "shapeTells", fn := fun _ => fun
  | [d1, d2] => { results := [.lit (.bool false)], args := [d1, d2] }
  | _ => none }
def ShapeTellsWrongFalsely : Prop := shapeTellsRow.holds Tryd.pinned (OpenSpec.ofChange shapeTellsWrong)

/-- 'bramblelaw11.ShapeTurned': WHATEVER THE INPUT: true; the input reads as it did. -/
def shapeTurnedSpec : ChangeSpec := { name := "shapeTurned", fn := fun _ => fun
  | [d1, d2, d3, d4, d5] => { results := [.lit (.bool true)], args := [d1, d2, d3, d4, d5] }
  | _ => none }
def shapeTurnedRow : OpenClaim := { program := "ytkdmcbacofafpaadoor", sum := "64b192ae702f3cf95534e284ced97dba5d2d65ee84f3bd9a2315d92e5d44be12", func := "bramble/bramblelaw11.ShapeTurned", spec := "shapeTurned", inPlace := ["internal/bytealg.Compare"], unfollowed := true, recurses := true, named := ["bramble/shape.fewest", "bramble/shape.most"], apart := false, laid := [("bramble/shape.fewest", laid_bramble_shape_fewest), ("bramble/shape.most", laid_bramble_shape_most)] }
def ShapeTurnedSaid : Prop := shapeTurnedRow.holds Tryd.pinned (OpenSpec.ofChange shapeTurnedSpec)

/-- ITS FALSE NEIGHBOUR: 'it returns false'. Refute it at one input. -/
def shapeTurnedWrong : ChangeSpec := { name := "shapeTurned", fn := fun _ => fun
  | [d1, d2, d3, d4, d5] => { results := [.lit (.bool false)], args := [d1, d2, d3, d4, d5] }
  | _ => none }
def ShapeTurnedWrongFalsely : Prop := shapeTurnedRow.holds Tryd.pinned (OpenSpec.ofChange shapeTurnedWrong)

/-- 'bramblelaw11.ShapeCounts': WHATEVER THE INPUT: true; the input reads as it did. -/
def shapeCountsSpec : ChangeSpec := { name := "shapeCounts", fn := fun _ => fun
  | [d] => { results := [.lit (.bool true)], args := [d] }
  | _ => none }
def shapeCountsRow : OpenClaim := { program := "ytkdmcbacofafpaadoor", sum := "64b192ae702f3cf95534e284ced97dba5d2d65ee84f3bd9a2315d92e5d44be12", func := "bramble/bramblelaw11.ShapeCounts", spec := "shapeCounts", inPlace := ["internal/bytealg.Compare"], unfollowed := true, recurses := true, named := ["bramble/shape.fewest", "bramble/shape.most"], apart := false, laid := [("bramble/shape.fewest", laid_bramble_shape_fewest), ("bramble/shape.most", laid_bramble_shape_most)] }
def ShapeCountsSaid : Prop := shapeCountsRow.holds Tryd.pinned (OpenSpec.ofChange shapeCountsSpec)

/-- ITS FALSE NEIGHBOUR: 'it returns false'. Refute it at one input. -/
def shapeCountsWrong : ChangeSpec := { name := "shapeCounts", fn := fun _ => fun
  | [d] => { results := [.lit (.bool false)], args := [d] }
  | _ => none }
def ShapeCountsWrongFalsely : Prop := shapeCountsRow.holds Tryd.pinned (OpenSpec.ofChange shapeCountsWrong)

/-- 'bramblelaw11.ShapeValues': WHATEVER THE INPUT: true; the input reads as it did. -/
def shapeValuesSpec : ChangeSpec := { name := "shapeValues", fn := fun _ => fun
  | [d1, d2, d3] => { results := [.lit (.bool true)], args := [d1, d2, d3] }
  | _ => none }
def shapeValuesRow : OpenClaim := { program := "ytkdmcbacofafpaadoor", sum := "64b192ae702f3cf95534e284ced97dba5d2d65ee84f3bd9a2315d92e5d44be12", func := "bramble/bramblelaw11.ShapeValues", spec := "shapeValues", inPlace := ["internal/bytealg.Compare"], unfollowed := true, recurses := true, named := ["bramble/shape.fewest", "bramble/shape.most"], apart := false, laid := [("bramble/shape.fewest", laid_bramble_shape_fewest), ("bramble/shape.most", laid_bramble_shape_most)] }
def ShapeValuesSaid : Prop := shapeValuesRow.holds Tryd.pinned (OpenSpec.ofChange shapeValuesSpec)

/-- ITS FALSE NEIGHBOUR: 'it returns false'. Refute it at one input. -/
def shapeValuesWrong : ChangeSpec := { name := "shapeValues", fn := fun _ => fun
  | [d1, d2, d3] => { results := [.lit (.bool false)], args := [d1, d2, d3] }
  | _ => none }
def ShapeValuesWrongFalsely : Prop := shapeValuesRow.holds Tryd.pinned (OpenSpec.ofChange shapeValuesWrong)

/-- 'bramblelaw11.ShapeLeaves': WHATEVER THE INPUT: true; the input reads as it did. -/
def shapeLeavesSpec : ChangeSpec := { name := "shapeLeaves", fn := fun _ => fun
  | [d1, d2, d3] => { results := [.lit (.bool true)], args := [d1, d2, d3] }
  | _ => none }
def shapeLeavesRow : OpenClaim := { program := "ytkdmcbacofafpaadoor", sum := "64b192ae702f3cf95534e284ced97dba5d2d65ee84f3bd9a2315d92e5d44be12", func := "bramble/bramblelaw11.ShapeLeaves", spec := "shapeLeaves", inPlace := ["internal/bytealg.Compare"], unfollowed := true, recurses := true, named := ["bramble/shape.fewest", "bramble/shape.most"], apart := false, laid := [("bramble/shape.fewest", laid_bramble_shape_fewest), ("bramble/shape.most", laid_bramble_shape_most)] }
def ShapeLeavesSaid : Prop := shapeLeavesRow.holds Tryd.pinned (OpenSpec.ofChange shapeLeavesSpec)

/-- ITS FALSE NEIGHBOUR: 'it returns false'. Refute it at one input. -/
def shapeLeavesWrong : ChangeSpec := { name := "shapeLeaves", fn := fun _ => fun
  | [d1, d2, d3] => { results := [.lit (.bool false)], args := [d1, d2, d3] }
  | _ => none }
def ShapeLeavesWrongFalsely : Prop := shapeLeavesRow.holds Tryd.pinned (OpenSpec.ofChange shapeLeavesWrong)

/- THE SECOND FORM. 'bulk': how many values and letters a reading holds, each counted each time it is reached (what is shared counts as often as it is met; a slice's spare places count too). A statement '..UptoSaid' is the law's where the arguments, and the package variables that the reading takes, are together of bulk at most 1048576: NARROWER than '..Said'. Prove '..Said' where nothing that the law and all that it calls make is longer than what came in: it says more and counts as full. Else prove '..UptoSaid'. A law counts once. -/
mutual
def uptoBulk {H : Type} : DataW H → Nat
  | .lit (.string bytes) => bytes.length + 1
  | .lit _ => 1
  | .nil => 1
  | .ptr d => uptoBulk d + 1
  | .slice elems spare => uptoBulkAll elems + uptoBulkAll spare + 1
  | .agg parts => uptoBulkAll parts + 1
  | .iface _ d => uptoBulk d + 1
  | .map entries => uptoBulkEntries entries + 1
  | .held _ => 1
def uptoBulkAll {H : Type} : List (DataW H) → Nat
  | [] => 0
  | d :: r => uptoBulk d + uptoBulkAll r
def uptoBulkEntries {H : Type} : List (Lit × DataW H) → Nat
  | [] => 0
  | x :: r => uptoBulkEntry x + uptoBulkEntries r
def uptoBulkEntry {H : Type} : Lit × DataW H → Nat
  | (.string bytes, d) => bytes.length + uptoBulk d + 1
  | (_, d) => uptoBulk d + 1
 end
def uptoSmall : (H : Type) → List (DataW H) → Bool := fun _ ds => decide (uptoBulkAll ds ≤ 1048576)
def OpenSpec.upto (s : _root_.Go.ChangeSpec) : _root_.Go.OpenSpec := { _root_.Go.OpenSpec.ofChange s with cond := some uptoSmall }

/-- 'bramblelaw11.ShapeTells', WHERE WHAT IT READS IS OF BULK AT MOST 1048576: true; the input reads as it did. -/
def shapeTellsUptoRow : OpenClaim := { program := "ytkdmcbacofafpaadoor", sum := "64b192ae702f3cf95534e284ced97dba5d2d65ee84f3bd9a2315d92e5d44be12", func := "bramble/bramblelaw11.ShapeTells", spec := "shapeTells", inPlace := ["internal/bytealg.Compare"], unfollowed := true, recurses := true, named := ["bramble/shape.fewest", "bramble/shape.most"], apart := false, laid := [("bramble/shape.fewest", laid_bramble_shape_fewest), ("bramble/shape.most", laid_bramble_shape_most)], narrowed := true }
def ShapeTellsUptoSaid : Prop := shapeTellsUptoRow.holds Tryd.pinned (OpenSpec.upto shapeTellsSpec)

/-- 'bramblelaw11.ShapeTurned', WHERE WHAT IT READS IS OF BULK AT MOST 1048576: true; the input reads as it did. -/
def shapeTurnedUptoRow : OpenClaim := { program := "ytkdmcbacofafpaadoor", sum := "64b192ae702f3cf95534e284ced97dba5d2d65ee84f3bd9a2315d92e5d44be12", func := "bramble/bramblelaw11.ShapeTurned", spec := "shapeTurned", inPlace := ["internal/bytealg.Compare"], unfollowed := true, recurses := true, named := ["bramble/shape.fewest", "bramble/shape.most"], apart := false, laid := [("bramble/shape.fewest", laid_bramble_shape_fewest), ("bramble/shape.most", laid_bramble_shape_most)], narrowed := true }
def ShapeTurnedUptoSaid : Prop := shapeTurnedUptoRow.holds Tryd.pinned (OpenSpec.upto shapeTurnedSpec)

/-- 'bramblelaw11.ShapeCounts', WHERE WHAT IT READS IS OF BULK AT MOST 1048576: true; the input reads as it did. -/
def shapeCountsUptoRow : OpenClaim := { program := "ytkdmcbacofafpaadoor", sum := "64b192ae702f3cf95534e284ced97dba5d2d65ee84f3bd9a2315d92e5d44be12", func := "bramble/bramblelaw11.ShapeCounts", spec := "shapeCounts", inPlace := ["internal/bytealg.Compare"], unfollowed := true, recurses := true, named := ["bramble/shape.fewest", "bramble/shape.most"], apart := false, laid := [("bramble/shape.fewest", laid_bramble_shape_fewest), ("bramble/shape.most", laid_bramble_shape_most)], narrowed := true }
def ShapeCountsUptoSaid : Prop := shapeCountsUptoRow.holds Tryd.pinned (OpenSpec.upto shapeCountsSpec)

/-- 'bramblelaw11.ShapeValues', WHERE WHAT IT READS IS OF BULK AT MOST 1048576: true; the input reads as it did. -/
def shapeValuesUptoRow : OpenClaim := { program := "ytkdmcbacofafpaadoor", sum := "64b192ae702f3cf95534e284ced97dba5d2d65ee84f3bd9a2315d92e5d44be12", func := "bramble/bramblelaw11.ShapeValues", spec := "shapeValues", inPlace := ["internal/bytealg.Compare"], unfollowed := true, recurses := true, named := ["bramble/shape.fewest", "bramble/shape.most"], apart := false, laid := [("bramble/shape.fewest", laid_bramble_shape_fewest), ("bramble/shape.most", laid_bramble_shape_most)], narrowed := true }
def ShapeValuesUptoSaid : Prop := shapeValuesUptoRow.holds Tryd.pinned (OpenSpec.upto shapeValuesSpec)

/-- 'bramblelaw11.ShapeLeaves', WHERE WHAT IT READS IS OF BULK AT MOST 1048576: true; the input reads as it did. -/
def shapeLeavesUptoRow : OpenClaim := { program := "ytkdmcbacofafpaadoor", sum := "64b192ae702f3cf95534e284ced97dba5d2d65ee84f3bd9a2315d92e5d44be12", func := "bramble/bramblelaw11.ShapeLeaves", spec := "shapeLeaves", inPlace := ["internal/bytealg.Compare"], unfollowed := true, recurses := true, named := ["bramble/shape.fewest", "bramble/shape.most"], apart := false, laid := [("bramble/shape.fewest", laid_bramble_shape_fewest), ("bramble/shape.most", laid_bramble_shape_most)], narrowed := true }
def ShapeLeavesUptoSaid : Prop := shapeLeavesUptoRow.holds Tryd.pinned (OpenSpec.upto shapeLeavesSpec)

end Rows
end Go.Proofs.YtkdmcbacofafpaaDoor
