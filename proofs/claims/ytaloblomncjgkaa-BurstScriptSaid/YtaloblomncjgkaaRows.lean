/-
  No cell of these rows narrows 'for every input' (looked for: loops, veiled, ifaces, maps, wideKeys, modest, calm, conditions, laid).
  DERIVED. THE GIVEN ROWS OF THIS SEAT. 11 by the template 'for every input the law returns true; each argument reads behind the call as it read before'; 0 by the template 'total and deterministic' (their statements: YtaloblomncjgkaaTotals.lean).
  GIVEN WITH THE SEED: the statements are not yours to turn. If you find one false, say at which input.
  Laid BY PROGRAM, IN A SANDBOX (cutbox-rows.mjs): the forced cells as the released guide's own fill.sh prints them over the translation 26b4fc99fc1cf167… (all of the seat's roots in one cut). By AI agents, Wed Nov 11 2026. No macro, syntax, notation, axiom, sorry.
-/
import Derived.Test.YtaloblomncjgkaaChecked
import GoSem.Claim
import GoSem.ClaimJoined
import GoSem.ClaimMapViews
import Derived.JoinedTies
import Derived.KernelRfl
namespace Go.Proofs.Ytaloblomncjgkaa
/- THE CELL 'sum', in the pinned program and in every row, IS THE sha256 OF THE DUMP (.gsa) THAT YtaloblomncjgkaaProg.lean LOADS. Nothing in Lean hashes anything: it is a label: what it is worth is what the hold of that sum in a sandbox is worth. -/
noncomputable def Try.pinned : Pinned := { name := "ytaloblomncjgkaa", sum := "26b4fc99fc1cf167bf7dd6fd3c2067b09c7a2860fd63c2605cafd0d01e9c3bac", checked := Try.checked }
namespace Rows
def none {H : Type} : Left H := { results := [], args := [] }

/-- 'bramblelaw15.BurstBegins': WHATEVER THE INPUT: true; the input reads as it did. -/
def burstBeginsSpec : ChangeSpec := { name := "burstBegins", fn := fun _ => fun
  | [d1, d2] => { results := [.lit (.bool true)], args := [d1, d2] }
  | _ => none }
def burstBeginsRow : OpenClaim := { program := "ytaloblomncjgkaa", sum := "26b4fc99fc1cf167bf7dd6fd3c2067b09c7a2860fd63c2605cafd0d01e9c3bac", func := "bramble/bramblelaw15.BurstBegins", spec := "burstBegins", inPlace := ["internal/bytealg.Compare", "slices.overlaps[bramble/api.Pair]"], unfollowed := true, recurses := true, apart := false }
def BurstBeginsSaid : Prop := burstBeginsRow.holds Try.pinned (OpenSpec.ofChange burstBeginsSpec)

/-- ITS FALSE NEIGHBOUR: 'it returns false'. Refute it at one input. -/
def burstBeginsWrong : ChangeSpec := { name := "burstBegins", fn := fun _ => fun
  | [d1, d2] => { results := [.lit (.bool false)], args := [d1, d2] }
  | _ => none }
def BurstBeginsWrongFalsely : Prop := burstBeginsRow.holds Try.pinned (OpenSpec.ofChange burstBeginsWrong)

/-- 'bramblelaw15.BurstOrders': WHATEVER THE INPUT: true; the input reads as it did. -/
def burstOrdersSpec : ChangeSpec := { name := "burstOrders", fn := fun _ => fun
  | [d1, d2] => { results := [.lit (.bool true)], args := [d1, d2] }
  | _ => none }
def burstOrdersRow : OpenClaim := { program := "ytaloblomncjgkaa", sum := "26b4fc99fc1cf167bf7dd6fd3c2067b09c7a2860fd63c2605cafd0d01e9c3bac", func := "bramble/bramblelaw15.BurstOrders", spec := "burstOrders", inPlace := ["internal/bytealg.Compare", "slices.overlaps[bramble/api.Pair]"], unfollowed := true, recurses := true, apart := false }
def BurstOrdersSaid : Prop := burstOrdersRow.holds Try.pinned (OpenSpec.ofChange burstOrdersSpec)

/-- ITS FALSE NEIGHBOUR: 'it returns false'. Refute it at one input. -/
def burstOrdersWrong : ChangeSpec := { name := "burstOrders", fn := fun _ => fun
  | [d1, d2] => { results := [.lit (.bool false)], args := [d1, d2] }
  | _ => none }
def BurstOrdersWrongFalsely : Prop := burstOrdersRow.holds Try.pinned (OpenSpec.ofChange burstOrdersWrong)

/-- 'bramblelaw15.BurstTurns': WHATEVER THE INPUT: true; the input reads as it did. -/
def burstTurnsSpec : ChangeSpec := { name := "burstTurns", fn := fun _ => fun
  | [d1, d2, d3] => { results := [.lit (.bool true)], args := [d1, d2, d3] }
  | _ => none }
def burstTurnsRow : OpenClaim := { program := "ytaloblomncjgkaa", sum := "26b4fc99fc1cf167bf7dd6fd3c2067b09c7a2860fd63c2605cafd0d01e9c3bac", func := "bramble/bramblelaw15.BurstTurns", spec := "burstTurns", inPlace := ["internal/bytealg.Compare", "slices.overlaps[bramble/api.Pair]"], unfollowed := true, recurses := true, apart := false }
def BurstTurnsSaid : Prop := burstTurnsRow.holds Try.pinned (OpenSpec.ofChange burstTurnsSpec)

/-- ITS FALSE NEIGHBOUR: 'it returns false'. Refute it at one input. -/
def burstTurnsWrong : ChangeSpec := { name := "burstTurns", fn := fun _ => fun
  | [d1, d2, d3] => { results := [.lit (.bool false)], args := [d1, d2, d3] }
  | _ => none }
def BurstTurnsWrongFalsely : Prop := burstTurnsRow.holds Try.pinned (OpenSpec.ofChange burstTurnsWrong)

/-- 'bramblelaw15.BurstShelves': WHATEVER THE INPUT: true; the input reads as it did. -/
def burstShelvesSpec : ChangeSpec := { name := "burstShelves", fn := fun _ => fun
  | [d1, d2] => { results := [.lit (.bool true)], args := [d1, d2] }
  | _ => none }
def burstShelvesRow : OpenClaim := { program := "ytaloblomncjgkaa", sum := "26b4fc99fc1cf167bf7dd6fd3c2067b09c7a2860fd63c2605cafd0d01e9c3bac", func := "bramble/bramblelaw15.BurstShelves", spec := "burstShelves", inPlace := ["internal/bytealg.Compare", "slices.overlaps[bramble/api.Pair]"], unfollowed := true, recurses := true, apart := false }
def BurstShelvesSaid : Prop := burstShelvesRow.holds Try.pinned (OpenSpec.ofChange burstShelvesSpec)

/-- ITS FALSE NEIGHBOUR: 'it returns false'. Refute it at one input. -/
def burstShelvesWrong : ChangeSpec := { name := "burstShelves", fn := fun _ => fun
  | [d1, d2] => { results := [.lit (.bool false)], args := [d1, d2] }
  | _ => none }
def BurstShelvesWrongFalsely : Prop := burstShelvesRow.holds Try.pinned (OpenSpec.ofChange burstShelvesWrong)

/-- 'bramblelaw15.BurstAsks': WHATEVER THE INPUT: true; the input reads as it did. -/
def burstAsksSpec : ChangeSpec := { name := "burstAsks", fn := fun _ => fun
  | [d1, d2, d3] => { results := [.lit (.bool true)], args := [d1, d2, d3] }
  | _ => none }
def burstAsksRow : OpenClaim := { program := "ytaloblomncjgkaa", sum := "26b4fc99fc1cf167bf7dd6fd3c2067b09c7a2860fd63c2605cafd0d01e9c3bac", func := "bramble/bramblelaw15.BurstAsks", spec := "burstAsks", inPlace := ["internal/bytealg.Compare", "slices.overlaps[bramble/api.Pair]"], unfollowed := true, recurses := true, apart := false }
def BurstAsksSaid : Prop := burstAsksRow.holds Try.pinned (OpenSpec.ofChange burstAsksSpec)

/-- ITS FALSE NEIGHBOUR: 'it returns false'. Refute it at one input. -/
def burstAsksWrong : ChangeSpec := { name := "burstAsks", fn := fun _ => fun
  | [d1, d2, d3] => { results := [.lit (.bool false)], args := [d1, d2, d3] }
  | _ => none }
def BurstAsksWrongFalsely : Prop := burstAsksRow.holds Try.pinned (OpenSpec.ofChange burstAsksWrong)

/-- 'bramblelaw15.BurstRoom': WHATEVER THE INPUT: true; the input reads as it did. -/
def burstRoomSpec : ChangeSpec := { name := "burstRoom", fn := fun _ => fun
  | [d1, d2, d3] => { results := [.lit (.bool true)], args := [d1, d2, d3] }
  | _ => none }
def burstRoomRow : OpenClaim := { program := "ytaloblomncjgkaa", sum := "26b4fc99fc1cf167bf7dd6fd3c2067b09c7a2860fd63c2605cafd0d01e9c3bac", func := "bramble/bramblelaw15.BurstRoom", spec := "burstRoom", inPlace := ["internal/bytealg.Compare", "slices.overlaps[bramble/api.Pair]"], unfollowed := true, recurses := true, apart := false }
def BurstRoomSaid : Prop := burstRoomRow.holds Try.pinned (OpenSpec.ofChange burstRoomSpec)

/-- ITS FALSE NEIGHBOUR: 'it returns false'. Refute it at one input. -/
def burstRoomWrong : ChangeSpec := { name := "burstRoom", fn := fun _ => fun
  | [d1, d2, d3] => { results := [.lit (.bool false)], args := [d1, d2, d3] }
  | _ => none }
def BurstRoomWrongFalsely : Prop := burstRoomRow.holds Try.pinned (OpenSpec.ofChange burstRoomWrong)

/-- 'bramblelaw15.BurstChain': WHATEVER THE INPUT: true; the input reads as it did. -/
def burstChainSpec : ChangeSpec := { name := "burstChain", fn := fun _ => fun
  | [d1, d2] => { results := [.lit (.bool true)], args := [d1, d2] }
  | _ => none }
def burstChainRow : OpenClaim := { program := "ytaloblomncjgkaa", sum := "26b4fc99fc1cf167bf7dd6fd3c2067b09c7a2860fd63c2605cafd0d01e9c3bac", func := "bramble/bramblelaw15.BurstChain", spec := "burstChain", inPlace := ["internal/bytealg.Compare", "slices.overlaps[bramble/api.Pair]"], unfollowed := true, recurses := true, apart := false }
def BurstChainSaid : Prop := burstChainRow.holds Try.pinned (OpenSpec.ofChange burstChainSpec)

/-- ITS FALSE NEIGHBOUR: 'it returns false'. Refute it at one input. -/
def burstChainWrong : ChangeSpec := { name := "burstChain", fn := fun _ => fun
  | [d1, d2] => { results := [.lit (.bool false)], args := [d1, d2] }
  | _ => none }
def BurstChainWrongFalsely : Prop := burstChainRow.holds Try.pinned (OpenSpec.ofChange burstChainWrong)

/-- 'bramblelaw15.BurstScript': WHATEVER THE INPUT: true; the input reads as it did. -/
def burstScriptSpec : ChangeSpec := { name := "burstScript", fn := fun _ => fun
  | [d1, d2, d3] => { results := [.lit (.bool true)], args := [d1, d2, d3] }
  | _ => none }
def burstScriptRow : OpenClaim := { program := "ytaloblomncjgkaa", sum := "26b4fc99fc1cf167bf7dd6fd3c2067b09c7a2860fd63c2605cafd0d01e9c3bac", func := "bramble/bramblelaw15.BurstScript", spec := "burstScript", inPlace := ["internal/bytealg.Compare", "slices.overlaps[bramble/api.Pair]"], unfollowed := true, recurses := true, apart := false }
def BurstScriptSaid : Prop := burstScriptRow.holds Try.pinned (OpenSpec.ofChange burstScriptSpec)

/-- ITS FALSE NEIGHBOUR: 'it returns false'. Refute it at one input. -/
def burstScriptWrong : ChangeSpec := { name := "burstScript", fn := fun _ => fun
  | [d1, d2, d3] => { results := [.lit (.bool false)], args := [d1, d2, d3] }
  | _ => none }
def BurstScriptWrongFalsely : Prop := burstScriptRow.holds Try.pinned (OpenSpec.ofChange burstScriptWrong)

/-- 'bramblelaw15.BurstBuilds': WHATEVER THE INPUT: true; the input reads as it did. -/
def burstBuildsSpec : ChangeSpec := { name := "burstBuilds", fn := fun _ => fun
  | [d1, d2, d3] => { results := [.lit (.bool true)], args := [d1, d2, d3] }
  | _ => none }
def burstBuildsRow : OpenClaim := { program := "ytaloblomncjgkaa", sum := "26b4fc99fc1cf167bf7dd6fd3c2067b09c7a2860fd63c2605cafd0d01e9c3bac", func := "bramble/bramblelaw15.BurstBuilds", spec := "burstBuilds", inPlace := ["internal/bytealg.Compare", "slices.overlaps[bramble/api.Pair]"], unfollowed := true, recurses := true, apart := false }
def BurstBuildsSaid : Prop := burstBuildsRow.holds Try.pinned (OpenSpec.ofChange burstBuildsSpec)

/-- ITS FALSE NEIGHBOUR: 'it returns false'. Refute it at one input. -/
def burstBuildsWrong : ChangeSpec := { name := "burstBuilds", fn := fun _ => fun
  | [d1, d2, d3] => { results := [.lit (.bool false)], args := [d1, d2, d3] }
  | _ => none }
def BurstBuildsWrongFalsely : Prop := burstBuildsRow.holds Try.pinned (OpenSpec.ofChange burstBuildsWrong)

/-- 'bramblelaw15.BurstUndoes': WHATEVER THE INPUT: true; the input reads as it did. -/
def burstUndoesSpec : ChangeSpec := { name := "burstUndoes", fn := fun _ => fun
  | [d1, d2] => { results := [.lit (.bool true)], args := [d1, d2] }
  | _ => none }
def burstUndoesRow : OpenClaim := { program := "ytaloblomncjgkaa", sum := "26b4fc99fc1cf167bf7dd6fd3c2067b09c7a2860fd63c2605cafd0d01e9c3bac", func := "bramble/bramblelaw15.BurstUndoes", spec := "burstUndoes", inPlace := ["internal/bytealg.Compare", "slices.overlaps[bramble/api.Pair]"], unfollowed := true, recurses := true, apart := false }
def BurstUndoesSaid : Prop := burstUndoesRow.holds Try.pinned (OpenSpec.ofChange burstUndoesSpec)

/-- ITS FALSE NEIGHBOUR: 'it returns false'. Refute it at one input. -/
def burstUndoesWrong : ChangeSpec := { name := "burstUndoes", fn := fun _ => fun
  | [d1, d2] => { results := [.lit (.bool false)], args := [d1, d2] }
  | _ => none }
def BurstUndoesWrongFalsely : Prop := burstUndoesRow.holds Try.pinned (OpenSpec.ofChange burstUndoesWrong)

/-- 'bramblelaw15.BurstNone': WHATEVER THE INPUT: true; the input reads as it did. -/
def burstNoneSpec : ChangeSpec := { name := "burstNone", fn := fun _ => fun
  | [d1, d2] => { results := [.lit (.bool true)], args := [d1, d2] }
  | _ => none }
def burstNoneRow : OpenClaim := { program := "ytaloblomncjgkaa", sum := "26b4fc99fc1cf167bf7dd6fd3c2067b09c7a2860fd63c2605cafd0d01e9c3bac", func := "bramble/bramblelaw15.BurstNone", spec := "burstNone", inPlace := ["internal/bytealg.Compare", "slices.overlaps[bramble/api.Pair]"], unfollowed := true, recurses := true, apart := false }
def BurstNoneSaid : Prop := burstNoneRow.holds Try.pinned (OpenSpec.ofChange burstNoneSpec)

/-- ITS FALSE NEIGHBOUR: 'it returns false'. Refute it at one input. -/
def burstNoneWrong : ChangeSpec := { name := "burstNone", fn := fun _ => fun
  | [d1, d2] => { results := [.lit (.bool false)], args := [d1, d2] }
  | _ => none }
def BurstNoneWrongFalsely : Prop := burstNoneRow.holds Try.pinned (OpenSpec.ofChange burstNoneWrong)

/- THE SECOND FORM. 'bulk': how many values and letters a reading holds, each counted each time it is reached (what is shared counts as often as it is met; a slice's spare places count too). A statement '..UptoSaid' is the law's where the arguments, and the package variables that the reading takes, are together of bulk at most 1048576: NARROWER than '..Said'. Prove '..Said' where nothing that the law and all that it calls make is longer than what came in: it says more and counts as full. Else prove '..UptoSaid'. A law counts once. -/
mutual
def uptoBulk {H : Type} : DataW H → Nat
  | .lit (.string bytes) => bytes.length + 1
  | .lit _ => 1
  | .nil => 1
  | .ptr d => uptoBulk d + 1
  | .slice elems spare => uptoBulkAll elems + uptoBulkAll spare + 1
  | .agg parts => uptoBulkAll parts + 1
  | .iface _ d => uptoBulk d + 1
  | .map entries => uptoBulkEntries entries + 1
  | .held _ => 1
def uptoBulkAll {H : Type} : List (DataW H) → Nat
  | [] => 0
  | d :: r => uptoBulk d + uptoBulkAll r
def uptoBulkEntries {H : Type} : List (Lit × DataW H) → Nat
  | [] => 0
  | x :: r => uptoBulkEntry x + uptoBulkEntries r
def uptoBulkEntry {H : Type} : Lit × DataW H → Nat
  | (.string bytes, d) => bytes.length + uptoBulk d + 1
  | (_, d) => uptoBulk d + 1
 end
def uptoSmall : (H : Type) → List (DataW H) → Bool := fun _ ds => decide (uptoBulkAll ds ≤ 1048576)
def OpenSpec.upto (s : _root_.Go.ChangeSpec) : _root_.Go.OpenSpec := { _root_.Go.OpenSpec.ofChange s with cond := some uptoSmall }

/-- 'bramblelaw15.BurstBegins', WHERE WHAT IT READS IS OF BULK AT MOST 1048576: true; the input reads as it did. -/
def burstBeginsUptoRow : OpenClaim := { program := "ytaloblomncjgkaa", sum := "26b4fc99fc1cf167bf7dd6fd3c2067b09c7a2860fd63c2605cafd0d01e9c3bac", func := "bramble/bramblelaw15.BurstBegins", spec := "burstBegins", inPlace := ["internal/bytealg.Compare", "slices.overlaps[bramble/api.Pair]"], unfollowed := true, recurses := true, apart := false, narrowed := true }
def BurstBeginsUptoSaid : Prop := burstBeginsUptoRow.holds Try.pinned (OpenSpec.upto burstBeginsSpec)

/-- 'bramblelaw15.BurstOrders', WHERE WHAT IT READS IS OF BULK AT MOST 1048576: true; the input reads as it did. -/
def burstOrdersUptoRow : OpenClaim := { program := "ytaloblomncjgkaa", sum := "26b4fc99fc1cf167bf7dd6fd3c2067b09c7a2860fd63c2605cafd0d01e9c3bac", func := "bramble/bramblelaw15.BurstOrders", spec := "burstOrders", inPlace := ["internal/bytealg.Compare", "slices.overlaps[bramble/api.Pair]"], unfollowed := true, recurses := true, apart := false, narrowed := true }
def BurstOrdersUptoSaid : Prop := burstOrdersUptoRow.holds Try.pinned (OpenSpec.upto burstOrdersSpec)

/-- 'bramblelaw15.BurstTurns', WHERE WHAT IT READS IS OF BULK AT MOST 1048576: true; the input reads as it did. -/
def burstTurnsUptoRow : OpenClaim := { program := "ytaloblomncjgkaa", sum := "26b4fc99fc1cf167bf7dd6fd3c2067b09c7a2860fd63c2605cafd0d01e9c3bac", func := "bramble/bramblelaw15.BurstTurns", spec := "burstTurns", inPlace := ["internal/bytealg.Compare", "slices.overlaps[bramble/api.Pair]"], unfollowed := true, recurses := true, apart := false, narrowed := true }
def BurstTurnsUptoSaid : Prop := burstTurnsUptoRow.holds Try.pinned (OpenSpec.upto burstTurnsSpec)

/-- 'bramblelaw15.BurstShelves', WHERE WHAT IT READS IS OF BULK AT MOST 1048576: true; the input reads as it did. -/
def burstShelvesUptoRow : OpenClaim := { program := "ytaloblomncjgkaa", sum := "26b4fc99fc1cf167bf7dd6fd3c2067b09c7a2860fd63c2605cafd0d01e9c3bac", func := "bramble/bramblelaw15.BurstShelves", spec := "burstShelves", inPlace := ["internal/bytealg.Compare", "slices.overlaps[bramble/api.Pair]"], unfollowed := true, recurses := true, apart := false, narrowed := true }
def BurstShelvesUptoSaid : Prop := burstShelvesUptoRow.holds Try.pinned (OpenSpec.upto burstShelvesSpec)

/-- 'bramblelaw15.BurstAsks', WHERE WHAT IT READS IS OF BULK AT MOST 1048576: true; the input reads as it did. -/
def burstAsksUptoRow : OpenClaim := { program := "ytaloblomncjgkaa", sum := "26b4fc99fc1cf167bf7dd6fd3c2067b09c7a2860fd63c2605cafd0d01e9c3bac", func := "bramble/bramblelaw15.BurstAsks", spec := "burstAsks", inPlace := ["internal/bytealg.Compare", "slices.overlaps[bramble/api.Pair]"], unfollowed := true, recurses := true, apart := false, narrowed := true }
def BurstAsksUptoSaid : Prop := burstAsksUptoRow.holds Try.pinned (OpenSpec.upto burstAsksSpec)

/-- 'bramblelaw15.BurstRoom', WHERE WHAT IT READS IS OF BULK AT MOST 1048576: true; the input reads as it did. -/
def burstRoomUptoRow : OpenClaim := { program := "ytaloblomncjgkaa", sum := "26b4fc99fc1cf167bf7dd6fd3c2067b09c7a2860fd63c2605cafd0d01e9c3bac", func := "bramble/bramblelaw15.BurstRoom", spec := "burstRoom", inPlace := ["internal/bytealg.Compare", "slices.overlaps[bramble/api.Pair]"], unfollowed := true, recurses := true, apart := false, narrowed := true }
def BurstRoomUptoSaid : Prop := burstRoomUptoRow.holds Try.pinned (OpenSpec.upto burstRoomSpec)

/-- 'bramblelaw15.BurstChain', WHERE WHAT IT READS IS OF BULK AT MOST 1048576: true; the input reads as it did. -/
def burstChainUptoRow : OpenClaim := { program := "ytaloblomncjgkaa", sum := "26b4fc99fc1cf167bf7dd6fd3c2067b09c7a2860fd63c2605cafd0d01e9c3bac", func := "bramble/bramblelaw15.BurstChain", spec := "burstChain", inPlace := ["internal/bytealg.Compare", "slices.overlaps[bramble/api.Pair]"], unfollowed := true, recurses := true, apart := false, narrowed := true }
def BurstChainUptoSaid : Prop := burstChainUptoRow.holds Try.pinned (OpenSpec.upto burstChainSpec)

/-- 'bramblelaw15.BurstScript', WHERE WHAT IT READS IS OF BULK AT MOST 1048576: true; the input reads as it did. -/
def burstScriptUptoRow : OpenClaim := { program := "ytaloblomncjgkaa", sum := "26b4fc99fc1cf167bf7dd6fd3c2067b09c7a2860fd63c2605cafd0d01e9c3bac", func := "bramble/bramblelaw15.BurstScript", spec := "burstScript", inPlace := ["internal/bytealg.Compare", "slices.overlaps[bramble/api.Pair]"], unfollowed := true, recurses := true, apart := false, narrowed := true }
def BurstScriptUptoSaid : Prop := burstScriptUptoRow.holds Try.pinned (OpenSpec.upto burstScriptSpec)

/-- 'bramblelaw15.BurstBuilds', WHERE WHAT IT READS IS OF BULK AT MOST 1048576: true; the input reads as it did. -/
def burstBuildsUptoRow : OpenClaim := { program := "ytaloblomncjgkaa", sum := "26b4fc99fc1cf167bf7dd6fd3c2067b09c7a2860fd63c2605cafd0d01e9c3bac", func := "bramble/bramblelaw15.BurstBuilds", spec := "burstBuilds", inPlace := ["internal/bytealg.Compare", "slices.overlaps[bramble/api.Pair]"], unfollowed := true, recurses := true, apart := false, narrowed := true }
def BurstBuildsUptoSaid : Prop := burstBuildsUptoRow.holds Try.pinned (OpenSpec.upto burstBuildsSpec)

/-- 'bramblelaw15.BurstUndoes', WHERE WHAT IT READS IS OF BULK AT MOST 1048576: true; the input reads as it did. -/
def burstUndoesUptoRow : OpenClaim := { program := "ytaloblomncjgkaa", sum := "26b4fc99fc1cf167bf7dd6fd3c2067b09c7a2860fd63c2605cafd0d01e9c3bac", func := "bramble/bramblelaw15.BurstUndoes", spec := "burstUndoes", inPlace := ["internal/bytealg.Compare", "slices.overlaps[bramble/api.Pair]"], unfollowed := true, recurses := true, apart := false, narrowed := true }
def BurstUndoesUptoSaid : Prop := burstUndoesUptoRow.holds Try.pinned (OpenSpec.upto burstUndoesSpec)

/-- 'bramblelaw15.BurstNone', WHERE WHAT IT READS IS OF BULK AT MOST 1048576: true; the input reads as it did. -/
def burstNoneUptoRow : OpenClaim := { program := "ytaloblomncjgkaa", sum := "26b4fc99fc1cf167bf7dd6fd3c2067b09c7a2860fd63c2605cafd0d01e9c3bac", func := "bramble/bramblelaw15.BurstNone", spec := "burstNone", inPlace := ["internal/bytealg.Compare", "slices.overlaps[bramble/api.Pair]"], unfollowed := true, recurses := true, apart := false, narrowed := true }
def BurstNoneUptoSaid : Prop := burstNoneUptoRow.holds Try.pinned (OpenSpec.upto burstNoneSpec)

end Rows
end Go.Proofs.Ytaloblomncjgkaa
