/-
  No cell of these rows narrows 'for every input' (looked for: loops, veiled, ifaces, maps, wideKeys, modest, calm, conditions, laid).
  DERIVED. THE GIVEN ROWS OF THIS SEAT. 3 by the template 'for every input the law returns true; each argument reads behind the call as it read before'; 0 by the template 'total and deterministic' (their statements: YtjknjlofkecflaaTotals.lean).
  GIVEN WITH THE SEED: the statements are not yours to turn. If you find one false, say at which input.
  Laid BY PROGRAM, IN A SANDBOX (cutbox-rows.mjs): the forced cells as the released guide's own fill.sh prints them over the translation 88e940303dd3e85b… (all of the seat's roots in one cut). By AI agents, Wed Nov 11 2026. No macro, syntax, notation, axiom, sorry.
-/
import Derived.Test.YtjknjlofkecflaaChecked
import GoSem.Claim
import GoSem.ClaimJoined
import GoSem.ClaimMapViews
import Derived.JoinedTies
import Derived.KernelRfl
namespace Go.Proofs.Ytjknjlofkecflaa
/- THE CELL 'sum', in the pinned program and in every row, IS THE sha256 OF THE DUMP (.gsa) THAT YtjknjlofkecflaaProg.lean LOADS. Nothing in Lean hashes anything: it is a label: what it is worth is what the hold of that sum in a sandbox is worth. -/
noncomputable def Try.pinned : Pinned := { name := "ytjknjlofkecflaa", sum := "88e940303dd3e85b3c849f868b7f30c6c7a78826da8d33d9bc78c2dc21ec3117", checked := Try.checked }
namespace Rows
def none {H : Type} : Left H := { results := [], args := [] }

/-- 'bramblelaw6.SpanScript': WHATEVER THE INPUT: true; the input reads as it did. -/
def spanScriptSpec : ChangeSpec := { name := "spanScript", fn := fun _ => fun
  | [d1, d2] => { results := [.lit (.bool true)], args := [d1, d2] }
  | _ => none }
def spanScriptRow : OpenClaim := { program := "ytjknjlofkecflaa", sum := "88e940303dd3e85b3c849f868b7f30c6c7a78826da8d33d9bc78c2dc21ec3117", func := "bramble/bramblelaw6.SpanScript", spec := "spanScript", apart := false }
def SpanScriptSaid : Prop := spanScriptRow.holds Try.pinned (OpenSpec.ofChange spanScriptSpec)

/-- ITS FALSE NEIGHBOUR: 'it returns false'. Refute it at one input. -/
def spanScriptWrong : ChangeSpec := { name := "spanScript", fn := fun _ => fun
  | [d1, d2] => { results := [.lit (.bool false)], args := [d1, d2] }
  | _ => none }
def SpanScriptWrongFalsely : Prop := spanScriptRow.holds Try.pinned (OpenSpec.ofChange spanScriptWrong)

/-- 'bramblelaw6.SpanKeeps': WHATEVER THE INPUT: true; the input reads as it did. -/
def spanKeepsSpec : ChangeSpec := { name := "spanKeeps", fn := fun _ => fun
  | [d1, d2] => { results := [.lit (.bool true)], args := [d1, d2] }
  | _ => none }
def spanKeepsRow : OpenClaim := { program := "ytjknjlofkecflaa", sum := "88e940303dd3e85b3c849f868b7f30c6c7a78826da8d33d9bc78c2dc21ec3117", func := "bramble/bramblelaw6.SpanKeeps", spec := "spanKeeps", apart := false }
def SpanKeepsSaid : Prop := spanKeepsRow.holds Try.pinned (OpenSpec.ofChange spanKeepsSpec)

/-- ITS FALSE NEIGHBOUR: 'it returns false'. Refute it at one input. -/
def spanKeepsWrong : ChangeSpec := { name := "spanKeeps", fn := fun _ => fun
  | [d1, d2] => { results := [.lit (.bool false)], args := [d1, d2] }
  | _ => none }
def SpanKeepsWrongFalsely : Prop := spanKeepsRow.holds Try.pinned (OpenSpec.ofChange spanKeepsWrong)

/-- 'bramblelaw6.SpanRoom': WHATEVER THE INPUT: true; the input reads as it did. -/
def spanRoomSpec : ChangeSpec := { name := "spanRoom", fn := fun _ => fun
  | [d1, d2, d3] => { results := [.lit (.bool true)], args := [d1, d2, d3] }
  | _ => none }
def spanRoomRow : OpenClaim := { program := "ytjknjlofkecflaa", sum := "88e940303dd3e85b3c849f868b7f30c6c7a78826da8d33d9bc78c2dc21ec3117", func := "bramble/bramblelaw6.SpanRoom", spec := "spanRoom", apart := false }
def SpanRoomSaid : Prop := spanRoomRow.holds Try.pinned (OpenSpec.ofChange spanRoomSpec)

/-- ITS FALSE NEIGHBOUR: 'it returns false'. Refute it at one input. -/
def spanRoomWrong : ChangeSpec := { name := "spanRoom", fn := fun _ => fun
  | [d1, d2, d3] => { results := [.lit (.bool false)], args := [d1, d2, d3] }
  | _ => none }
def SpanRoomWrongFalsely : Prop := spanRoomRow.holds Try.pinned (OpenSpec.ofChange spanRoomWrong)

/- THE SECOND FORM. 'bulk': how many values and letters a reading holds, each counted each time it is reached (what is shared counts as often as it is met; a slice's spare places count too). A statement '..UptoSaid' is the law's where the arguments, and the package variables that the reading takes, are together of bulk at most 1048576: NARROWER than '..Said'. Prove '..Said' where nothing that the law and all that it calls make is longer than what came in: it says more and counts as full. Else prove '..UptoSaid'. A law counts once. -/
mutual
def uptoBulk {H : Type} : DataW H → Nat
  | .lit (.string bytes) => bytes.length + 1
  | .lit _ => 1
  | .nil => 1
  | .ptr d => uptoBulk d + 1
  | .slice elems spare => uptoBulkAll elems + uptoBulkAll spare + 1
  | .agg parts => uptoBulkAll parts + 1
  | .iface _ d => uptoBulk d + 1
  | .map entries => uptoBulkEntries entries + 1
  | .held _ => 1
def uptoBulkAll {H : Type} : List (DataW H) → Nat
  | [] => 0
  | d :: r => uptoBulk d + uptoBulkAll r
def uptoBulkEntries {H : Type} : List (Lit × DataW H) → Nat
  | [] => 0
  | x :: r => uptoBulkEntry x + uptoBulkEntries r
def uptoBulkEntry {H : Type} : Lit × DataW H → Nat
  | (.string bytes, d) => bytes.length + uptoBulk d + 1
  | (_, d) => uptoBulk d + 1
 end
def uptoSmall : (H : Type) → List (DataW H) → Bool := fun _ ds => decide (uptoBulkAll ds ≤ 1048576)
def OpenSpec.upto (s : _root_.Go.ChangeSpec) : _root_.Go.OpenSpec := { _root_.Go.OpenSpec.ofChange s with cond := some uptoSmall }

/-- 'bramblelaw6.SpanScript', WHERE WHAT IT READS IS OF BULK AT MOST 1048576: true; the input reads as it did. -/
def spanScriptUptoRow : OpenClaim := { program := "ytjknjlofkecflaa", sum := "88e940303dd3e85b3c849f868b7f30c6c7a78826da8d33d9bc78c2dc21ec3117", func := "bramble/bramblelaw6.SpanScript", spec := "spanScript", apart := false, narrowed := true }
def SpanScriptUptoSaid : Prop := spanScriptUptoRow.holds Try.pinned (OpenSpec.upto spanScriptSpec)

/-- 'bramblelaw6.SpanKeeps', WHERE WHAT IT READS IS OF BULK AT MOST 1048576: true; the input reads as it did. -/
def spanKeepsUptoRow : OpenClaim := { program := "ytjknjlofkecflaa", sum := "88e940303dd3e85b3c849f868b7f30c6c7a78826da8d33d9bc78c2dc21ec3117", func := "bramble/bramblelaw6.SpanKeeps", spec := "spanKeeps", apart := false, narrowed := true }
def SpanKeepsUptoSaid : Prop := spanKeepsUptoRow.holds Try.pinned (OpenSpec.upto spanKeepsSpec)

/-- 'bramblelaw6.SpanRoom', WHERE WHAT IT READS IS OF BULK AT MOST 1048576: true; the input reads as it did. -/
def spanRoomUptoRow : OpenClaim := { program := "ytjknjlofkecflaa", sum := "88e940303dd3e85b3c849f868b7f30c6c7a78826da8d33d9bc78c2dc21ec3117", func := "bramble/bramblelaw6.SpanRoom", spec := "spanRoom", apart := false, narrowed := true }
def SpanRoomUptoSaid : Prop := spanRoomUptoRow.holds Try.pinned (OpenSpec.upto spanRoomSpec)

end Rows
end Go.Proofs.Ytjknjlofkecflaa
