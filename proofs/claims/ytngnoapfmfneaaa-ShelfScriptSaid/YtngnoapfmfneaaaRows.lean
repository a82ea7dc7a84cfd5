/-
  No cell of these rows narrows 'for every input' (looked for: loops, veiled, ifaces, maps, wideKeys, modest, calm, conditions, laid).
  DERIVED. THE GIVEN ROWS OF THIS SEAT. 4 by the template 'for every input the law returns true; each argument reads behind the call as it read before'; 0 by the template 'total and deterministic' (their statements: YtngnoapfmfneaaaTotals.lean).
  GIVEN WITH THE SEED: the statements are not yours to turn. If you find one false, say at which input.
  Laid BY PROGRAM, IN A SANDBOX (cutbox-rows.mjs): the forced cells as the released guide's own fill.sh prints them over the translation 58e5b860eab089a3… (all of the seat's roots in one cut). By AI agents, Wed Nov 11 2026. No macro, syntax, notation, axiom, sorry.
-/
import Derived.Test.YtngnoapfmfneaaaChecked
import GoSem.Claim
import GoSem.ClaimJoined
import GoSem.ClaimMapViews
import Derived.JoinedTies
import Derived.KernelRfl
namespace Go.Proofs.Ytngnoapfmfneaaa
/- THE CELL 'sum', in the pinned program and in every row, IS THE sha256 OF THE DUMP (.gsa) THAT YtngnoapfmfneaaaProg.lean LOADS. Nothing in Lean hashes anything: it is a label: what it is worth is what the hold of that sum in a sandbox is worth. -/
noncomputable def Try.pinned : Pinned := { name := "ytngnoapfmfneaaa", sum := "58e5b860eab089a3f247198685cc4efce37cfd7d87e2a18b662123813337eebe", checked := Try.checked }
namespace Rows
def none {H : Type} : Left H := { results := [], args := [] }

/-- 'bramblelaw8.ShelfSplits': WHATEVER THE INPUT: true; the input reads as it did. -/
def shelfSplitsSpec : ChangeSpec := { name := "shelfSplits", fn := fun _ => fun
  | [d] => { results := [.lit (.bool true)], args := [d] }
  | _ => none }
def shelfSplitsRow : OpenClaim := { program := "ytngnoapfmfneaaa", sum := "58e5b860eab089a3f247198685cc4efce37cfd7d87e2a18b662123813337eebe", func := "bramble/bramblelaw8.ShelfSplits", spec := "shelfSplits", inPlace := ["internal/bytealg.Compare", "slices.overlaps[bramble/api.Pair]"], unfollowed := true, recurses := true, apart := false }
def ShelfSplitsSaid : Prop := shelfSplitsRow.holds Try.pinned (OpenSpec.ofChange shelfSplitsSpec)

/-- ITS FALSE NEIGHBOUR: 'it returns false'. Refute it at one input. -/
def shelfSplitsWrong : ChangeSpec := { name := "shelfSplits", fn := fun _ => fun
  | [d] => { results := [.lit (.bool false)], args := [d] }
  | _ => none }
def ShelfSplitsWrongFalsely : Prop := shelfSplitsRow.holds Try.pinned (OpenSpec.ofChange shelfSplitsWrong)

/-- 'bramblelaw8.ShelfFinds': WHATEVER THE INPUT: true; the input reads as it did. -/
def shelfFindsSpec : ChangeSpec := { name := "shelfFinds", fn := fun _ => fun
  | [d1, d2] => { results := [.lit (.bool true)], args := [d1, d2] }
  | _ => none }
def shelfFindsRow : OpenClaim := { program := "ytngnoapfmfneaaa", sum := "58e5b860eab089a3f247198685cc4efce37cfd7d87e2a18b662123813337eebe", func := "bramble/bramblelaw8.ShelfFinds", spec := "shelfFinds", inPlace := ["internal/bytealg.Compare", "slices.overlaps[bramble/api.Pair]"], unfollowed := true, recurses := true, apart := false }
def ShelfFindsSaid : Prop := shelfFindsRow.holds Try.pinned (OpenSpec.ofChange shelfFindsSpec)

/-- ITS FALSE NEIGHBOUR: 'it returns false'. Refute it at one input. -/
def shelfFindsWrong : ChangeSpec := { name := "shelfFinds", fn := fun _ => fun
  | [d1, d2] => { results := [.lit (.bool false)], args := [d1, d2] }
  | _ => none }
def ShelfFindsWrongFalsely : Prop := shelfFindsRow.holds Try.pinned (OpenSpec.ofChange shelfFindsWrong)

/-- 'bramblelaw8.ShelfScript': WHATEVER THE INPUT: true; the input reads as it did. -/
def shelfScriptSpec : ChangeSpec := { name := "shelfScript", fn := fun _ => fun
  | [d1, d2] => { results := [.lit (.bool true)], args := [d1, d2] }
  | _ => none }
def shelfScriptRow : OpenClaim := { program := "ytngnoapfmfneaaa", sum := "58e5b860eab089a3f247198685cc4efce37cfd7d87e2a18b662123813337eebe", func := "bramble/bramblelaw8.ShelfScript", spec := "shelfScript", inPlace := ["internal/bytealg.Compare", "slices.overlaps[bramble/api.Pair]"], unfollowed := true, recurses := true, apart := false }
def ShelfScriptSaid : Prop := shelfScriptRow.holds Try.pinned (OpenSpec.ofChange shelfScriptSpec)

/-- ITS FALSE NEIGHBOUR: 'it returns false'. Refute it at one input. -/
def shelfScriptWrong : ChangeSpec := { name := "shelfScript", fn := fun _ => fun
  | [d1, d2] => { results := [.lit (.bool false)], args := [d1, d2] }
  | _ => none }
def ShelfScriptWrongFalsely : Prop := shelfScriptRow.holds Try.pinned (OpenSpec.ofChange shelfScriptWrong)

/-- 'bramblelaw8.ShelfFull': WHATEVER THE INPUT: true; the input reads as it did. -/
def shelfFullSpec : ChangeSpec := { name := "shelfFull", fn := fun _ => fun
  | [d1, d2] => { results := [.lit (.bool true)], args := [d1, d2] }
  | _ => none }
def shelfFullRow : OpenClaim := { program := "ytngnoapfmfneaaa", sum := "58e5b860eab089a3f247198685cc4efce37cfd7d87e2a18b662123813337eebe", func := "bramble/bramblelaw8.ShelfFull", spec := "shelfFull", inPlace := ["internal/bytealg.Compare", "slices.overlaps[bramble/api.Pair]"], unfollowed := true, recurses := true, apart := false }
def ShelfFullSaid : Prop := shelfFullRow.holds Try.pinned (OpenSpec.ofChange shelfFullSpec)

/-- ITS FALSE NEIGHBOUR: 'it returns false'. Refute it at one input. -/
def shelfFullWrong : ChangeSpec := { name := "shelfFull", fn := fun _ => fun
  | [d1, d2] => { results := [.lit (.bool false)], args := [d1, d2] }
  | _ => none }
def ShelfFullWrongFalsely : Prop := shelfFullRow.holds Try.pinned (OpenSpec.ofChange shelfFullWrong)

/- THE SECOND FORM. 'bulk': how many values and letters a reading holds, each counted each time it is reached (what is shared counts as often as it is met; a slice's spare places count too). A statement '..UptoSaid' is the law's where the arguments, and the package variables that the reading takes, are together of bulk at most 1048576: NARROWER than '..Said'. Prove '..Said' where nothing that the law and all that it calls make is longer than what came in: it says more and counts as full. Else prove '..UptoSaid'. A law counts once. -/
mutual
def uptoBulk {H : Type} : DataW H → Nat
  | .lit (.string bytes) => bytes.length + 1
  | .lit _ => 1
  | .nil => 1
  | .ptr d => uptoBulk d + 1
  | .slice elems spare => uptoBulkAll elems + uptoBulkAll spare + 1
  | .agg parts => uptoBulkAll parts + 1
  | .iface _ d => uptoBulk d + 1
  | .map entries => uptoBulkEntries entries + 1
  | .held _ => 1
def uptoBulkAll {H : Type} : List (DataW H) → Nat
  | [] => 0
  | d :: r => uptoBulk d + uptoBulkAll r
def uptoBulkEntries {H : Type} : List (Lit × DataW H) → Nat
  | [] => 0
  | x :: r => uptoBulkEntry x + uptoBulkEntries r
def uptoBulkEntry {H : Type} : Lit × DataW H → Nat
  | (.string bytes, d) => bytes.length + uptoBulk d + 1
  | (_, d) => uptoBulk d + 1
 end
def uptoSmall : (H : Type) → List (DataW H) → Bool := fun _ ds => decide (uptoBulkAll ds ≤ 1048576)
def OpenSpec.upto (s : _root_.Go.ChangeSpec) : _root_.Go.OpenSpec := { _root_.Go.OpenSpec.ofChange s with cond := some uptoSmall }

/-- 'bramblelaw8.ShelfSplits', WHERE WHAT IT READS IS OF BULK AT MOST 1048576: true; the input reads as it did. -/
def shelfSplitsUptoRow : OpenClaim := { program := "ytngnoapfmfneaaa", sum := "58e5b860eab089a3f247198685cc4efce37cfd7d87e2a18b662123813337eebe", func := "bramble/bramblelaw8.ShelfSplits", spec := "shelfSplits", inPlace := ["internal/bytealg.Compare", "slices.overlaps[bramble/api.Pair]"], unfollowed := true, recurses := true, apart := false, narrowed := true }
def ShelfSplitsUptoSaid : Prop := shelfSplitsUptoRow.holds Try.pinned (OpenSpec.upto shelfSplitsSpec)

/-- 'bramblelaw8.ShelfFinds', WHERE WHAT IT READS IS OF BULK AT MOST 1048576: true; the input reads as it did. -/
def shelfFindsUptoRow : OpenClaim := { program := "ytngnoapfmfneaaa", sum := "58e5b860eab089a3f247198685cc4efce37cfd7d87e2a18b662123813337eebe", func := "bramble/bramblelaw8.ShelfFinds", spec := "shelfFinds", inPlace := ["internal/bytealg.Compare", "slices.overlaps[bramble/api.Pair]"], unfollowed := true, recurses := true, apart := false, narrowed := true }
def ShelfFindsUptoSaid : Prop := shelfFindsUptoRow.holds Try.pinned (OpenSpec.upto shelfFindsSpec)

/-- 'bramblelaw8.ShelfScript', WHERE WHAT IT READS IS OF BULK AT MOST 1048576: true; the input reads as it did. -/
def shelfScriptUptoRow : OpenClaim := { program := "ytngnoapfmfneaaa", sum := "58e5b860eab089a3f247198685cc4efce37cfd7d87e2a18b662123813337eebe", func := "bramble/bramblelaw8.ShelfScript", spec := "shelfScript", inPlace := ["internal/bytealg.Compare", "slices.overlaps[bramble/api.Pair]"], unfollowed := true, recurses := true, apart := false, narrowed := true }
def ShelfScriptUptoSaid : Prop := shelfScriptUptoRow.holds Try.pinned (OpenSpec.upto shelfScriptSpec)

/-- 'bramblelaw8.ShelfFull', WHERE WHAT IT READS IS OF BULK AT MOST 1048576: true; the input reads as it did. -/
def shelfFullUptoRow : OpenClaim := { program := "ytngnoapfmfneaaa", sum := "58e5b860eab089a3f247198685cc4efce37cfd7d87e2a18b662123813337eebe", func := "bramble/bramblelaw8.ShelfFull", spec := "shelfFull", inPlace := ["internal/bytealg.Compare", "slices.overlaps[bramble/api.Pair]"], unfollowed := true, recurses := true, apart := false, narrowed := true }
def ShelfFullUptoSaid : Prop := shelfFullUptoRow.holds Try.pinned (OpenSpec.upto shelfFullSpec)

end Rows
end Go.Proofs.Ytngnoapfmfneaaa
