/-
  No cell of these rows narrows 'for every input' (looked for: loops, veiled, ifaces, maps, wideKeys, modest, calm, conditions, laid).
  DERIVED. THE GIVEN ROWS OF THIS SEAT. 8 by the template 'for every input the law returns true; each argument reads behind the call as it read before'; 0 by the template 'total and deterministic' (their statements: YtopfmnkohfcggaaTotals.lean).
  GIVEN WITH THE SEED: the statements are not yours to turn. If you find one false, say at which input.
  Laid BY PROGRAM, IN A SANDBOX (cutbox-rows.mjs): the forced cells as the released guide's own fill.sh prints them over the translation ee0a1c5f332190c1… (all of the seat's roots in one cut). By AI agents, Wed Nov 11 2026. No macro, syntax, notation, axiom, sorry.
-/
import Derived.Test.YtopfmnkohfcggaaChecked
import GoSem.Claim
import GoSem.ClaimJoined
import GoSem.ClaimMapViews
import Derived.JoinedTies
import Derived.KernelRfl
namespace Go.Proofs.Ytopfmnkohfcggaa
/- THE CELL 'sum', in the pinned program and in every row, IS THE sha256 OF THE DUMP (.gsa) THAT YtopfmnkohfcggaaProg.lean LOADS. Nothing in Lean hashes anything: it is a label: what it is worth is what the hold of that sum in a sandbox is worth. -/
noncomputable def Try.pinned : Pinned := { name := "ytopfmnkohfcggaa", sum := "ee0a1c5f332190c1be0c6e233d66423132ef38e5ac6a3b54105acbccba79d17a", checked := Try.checked }
namespace Rows
def none {H : Type} : Left H := { results := [], args := [] }

/-- 'bramblelaw10.NeedTells': WHATEVER THE INPUT: true; the input reads as it did. -/
def needTellsSpec : ChangeSpec := { name := "needTells", fn := fun _ => fun
  | [d1, d2, d3, d4] => { results := [.lit (.bool true)], args := [d1, d2, d3, d4] }
  | _ => none }
def needTellsRow : OpenClaim := { program := "ytopfmnkohfcggaa", sum := "ee0a1c5f332190c1be0c6e233d66423132ef38e5ac6a3b54105acbccba79d17a", func := "bramble/bramblelaw10.NeedTells", spec := "needTells", apart := false }
def NeedTellsSaid : Prop := needTellsRow.holds Try.pinned (OpenSpec.ofChange needTellsSpec)

/-- ITS FALSE NEIGHBOUR: 'it returns false'. Refute it at one input. -/
def needTellsWrong : ChangeSpec := { name := "needTells", fn := fun _ => fun
  | [d1, d2, d3, d4] => { results := [.lit (.bool false)], args := [d1, d2, d3, d4] }
  | _ => none }
def NeedTellsWrongFalsely : Prop := needTellsRow.holds Try.pinned (OpenSpec.ofChange needTellsWrong)

/-- 'bramblelaw10.NeedParts': WHATEVER THE INPUT: true; the input reads as it did. -/
def needPartsSpec : ChangeSpec := { name := "needParts", fn := fun _ => fun
  | [d1, d2, d3] => { results := [.lit (.bool true)], args := [d1, d2, d3] }
  | _ => none }
def needPartsRow : OpenClaim := { program := "ytopfmnkohfcggaa", sum := "ee0a1c5f332190c1be0c6e233d66423132ef38e5ac6a3b54105acbccba79d17a", func := "bramble/bramblelaw10.NeedParts", spec := "needParts", apart := false }
def NeedPartsSaid : Prop := needPartsRow.holds Try.pinned (OpenSpec.ofChange needPartsSpec)

/-- ITS FALSE NEIGHBOUR: 'it returns false'. Refute it at one input. -/
def needPartsWrong : ChangeSpec := { name := "needParts", fn := fun _ => fun
  | [d1, d2, d3] => { results := [.lit (.bool false)], args := [d1, d2, d3] }
  | _ => none }
def NeedPartsWrongFalsely : Prop := needPartsRow.holds Try.pinned (OpenSpec.ofChange needPartsWrong)

/-- 'bramblelaw1.KeyBits': WHATEVER THE INPUT: true; the input reads as it did. -/
def keyBitsSpec : ChangeSpec := { name := "keyBits", fn := fun _ => fun
  | [d1, d2] => { results := [.lit (.bool true)], args := [d1, d2] }
  | _ => none }
def keyBitsRow : OpenClaim := { program := "ytopfmnkohfcggaa", sum := "ee0a1c5f332190c1be0c6e233d66423132ef38e5ac6a3b54105acbccba79d17a", func := "bramble/bramblelaw1.KeyBits", spec := "keyBits", inPlace := ["internal/bytealg.Compare"], apart := false }
def KeyBitsSaid : Prop := keyBitsRow.holds Try.pinned (OpenSpec.ofChange keyBitsSpec)

/-- ITS FALSE NEIGHBOUR: 'it returns false'. Refute it at one input. -/
def keyBitsWrong : ChangeSpec := { name := "keyBits", fn := fun _ => fun
  | [d1, d2] => { results := [.lit (.bool false)], args := [d1, d2] }
  | _ => none }
def KeyBitsWrongFalsely : Prop := keyBitsRow.holds Try.pinned (OpenSpec.ofChange keyBitsWrong)

/-- 'bramblelaw1.KeyLong': WHATEVER THE INPUT: true; the input reads as it did. -/
def keyLongSpec : ChangeSpec := { name := "keyLong", fn := fun _ => fun
  | [d] => { results := [.lit (.bool true)], args := [d] }
  | _ => none }
def keyLongRow : OpenClaim := { program := "ytopfmnkohfcggaa", sum := "ee0a1c5f332190c1be0c6e233d66423132ef38e5ac6a3b54105acbccba79d17a", func := "bramble/bramblelaw1.KeyLong", spec := "keyLong", inPlace := ["internal/bytealg.Compare"], apart := false }
def KeyLongSaid : Prop := keyLongRow.holds Try.pinned (OpenSpec.ofChange keyLongSpec)

/-- ITS FALSE NEIGHBOUR: 'it returns false'. Refute it at one input. -/
def keyLongWrong : ChangeSpec := { name := "keyLong", fn := fun _ => fun
  | [d] => { results := [.lit (.bool false)], args := [d] }
  | _ => none }
def KeyLongWrongFalsely : Prop := keyLongRow.holds Try.pinned (OpenSpec.ofChange keyLongWrong)

/-- 'bramblelaw1.KeyThree': WHATEVER THE INPUT: true; the input reads as it did. -/
def keyThreeSpec : ChangeSpec := { name := "keyThree", fn := fun _ => fun
  | [d1, d2, d3] => { results := [.lit (.bool true)], args := [d1, d2, d3] }
  | _ => none }
def keyThreeRow : OpenClaim := { program := "ytopfmnkohfcggaa", sum := "ee0a1c5f332190c1be0c6e233d66423132ef38e5ac6a3b54105acbccba79d17a", func := "bramble/bramblelaw1.KeyThree", spec := "keyThree", inPlace := ["internal/bytealg.Compare"], apart := false }
def KeyThreeSaid : Prop := keyThreeRow.holds Try.pinned (OpenSpec.ofChange keyThreeSpec)

/-- ITS FALSE NEIGHBOUR: 'it returns false'. Refute it at one input. -/
def keyThreeWrong : ChangeSpec := { name := "keyThree", fn := fun _ => fun
  | [d1, d2, d3] => { results := [.lit (.bool false)], args := [d1, d2, d3] }
  | _ => none }
def KeyThreeWrongFalsely : Prop := keyThreeRow.holds Try.pinned (OpenSpec.ofChange keyThreeWrong)

/-- 'bramblelaw1.KeyWays': WHATEVER THE INPUT: true; the input reads as it did. -/
def keyWaysSpec : ChangeSpec := { name := "keyWays", fn := fun _ => fun
  | [d1, d2, d3, d4] => { results := [.lit (.bool true)], args := [d1, d2, d3, d4] }
  | _ => none }
def keyWaysRow : OpenClaim := { program := "ytopfmnkohfcggaa", sum := "ee0a1c5f332190c1be0c6e233d66423132ef38e5ac6a3b54105acbccba79d17a", func := "bramble/bramblelaw1.KeyWays", spec := "keyWays", inPlace := ["internal/bytealg.Compare"], apart := false }
def KeyWaysSaid : Prop := keyWaysRow.holds Try.pinned (OpenSpec.ofChange keyWaysSpec)

/-- ITS FALSE NEIGHBOUR: 'it returns false'. Refute it at one input. -/
def keyWaysWrong : ChangeSpec := { name := "keyWays", fn := fun _ => fun
  | [d1, d2, d3, d4] => { results := [.lit (.bool false)], args := [d1, d2, d3, d4] }
  | _ => none }
def KeyWaysWrongFalsely : Prop := keyWaysRow.holds Try.pinned (OpenSpec.ofChange keyWaysWrong)

/-- 'bramblelaw1.KeyTells': WHATEVER THE INPUT: true; the input reads as it did. -/
def keyTellsSpec : ChangeSpec := { name := "keyTells", fn := fun _ => fun
  | [d1, d2, d3] => { results := [.lit (.bool true)], args := [d1, d2, d3] }
  | _ => none }
def keyTellsRow : OpenClaim := { program := "ytopfmnkohfcggaa", sum := "ee0a1c5f332190c1be0c6e233d66423132ef38e5ac6a3b54105acbccba79d17a", func := "bramble/bramblelaw1.KeyTells", spec := "keyTells", inPlace := ["internal/bytealg.Compare"], apart := false }
def KeyTellsSaid : Prop := keyTellsRow.holds Try.pinned (OpenSpec.ofChange keyTellsSpec)

/-- ITS FALSE NEIGHBOUR: 'it returns false'. Refute it at one input. -/
def keyTellsWrong : ChangeSpec := { name := "keyTells", fn := fun _ => fun
  | [d1, d2, d3] => { results := [.lit (.bool false)], args := [d1, d2, d3] }
  | _ => none }
def KeyTellsWrongFalsely : Prop := keyTellsRow.holds Try.pinned (OpenSpec.ofChange keyTellsWrong)

/-- 'bramblelaw1.KeyBehind': WHATEVER THE INPUT: true; the input reads as it did. -/
def keyBehindSpec : ChangeSpec := { name := "keyBehind", fn := fun _ => fun
  | [d1, d2, d3] => { results := [.lit (.bool true)], args := [d1, d2, d3] }
  | _ => none }
def keyBehindRow : OpenClaim := { program := "ytopfmnkohfcggaa", sum := "ee0a1c5f332190c1be0c6e233d66423132ef38e5ac6a3b54105acbccba79d17a", func := "bramble/bramblelaw1.KeyBehind", spec := "keyBehind", inPlace := ["internal/bytealg.Compare"], apart := false }
def KeyBehindSaid : Prop := keyBehindRow.holds Try.pinned (OpenSpec.ofChange keyBehindSpec)

/-- ITS FALSE NEIGHBOUR: 'it returns false'. Refute it at one input. -/
def keyBehindWrong : ChangeSpec := { name := "keyBehind", fn := fun _ => fun
  | [d1, d2, d3] => { results := [.lit (.bool false)], args := [d1, d2, d3] }
  | _ => none }
def KeyBehindWrongFalsely : Prop := keyBehindRow.holds Try.pinned (OpenSpec.ofChange keyBehindWrong)

/- THE SECOND FORM. 'bulk': how many values and letters a reading holds, each counted each time it is reached (what is shared counts as often as it is met; a slice's spare places count too). A statement '..UptoSaid' is the law's where the arguments, and the package variables that the reading takes, are together of bulk at most 1048576: NARROWER than '..Said'. Prove '..Said' where nothing that the law and all that it calls make is longer than what came in: it says more and counts as full. Else prove '..UptoSaid'. A law counts once. -/
mutual
def uptoBulk {H : Type} : DataW H → Nat
  | .lit (.string bytes) => bytes.length + 1
  | .lit _ => 1
  | .nil => 1
  | .ptr d => uptoBulk d + 1
  | .slice elems spare => uptoBulkAll elems + uptoBulkAll spare + 1
  | .agg parts => uptoBulkAll parts + 1
  | .iface _ d => uptoBulk d + 1
  | .map entries => uptoBulkEntries entries + 1
  | .held _ => 1
def uptoBulkAll {H : Type} : List (DataW H) → Nat
  | [] => 0
  | d :: r => uptoBulk d + uptoBulkAll r
def uptoBulkEntries {H : Type} : List (Lit × DataW H) → Nat
  | [] => 0
  | x :: r => uptoBulkEntry x + uptoBulkEntries r
def uptoBulkEntry {H : Type} : Lit × DataW H → Nat
  | (.string bytes, d) => bytes.length + uptoBulk d + 1
  | (_, d) => uptoBulk d + 1
 end
def uptoSmall : (H : Type) → List (DataW H) → Bool := fun _ ds => decide (uptoBulkAll ds ≤ 1048576)
def OpenSpec.upto (s : _root_.Go.ChangeSpec) : _root_.Go.OpenSpec := { _root_.Go.OpenSpec.ofChange s with cond := some uptoSmall }

/-- 'bramblelaw10.NeedTells', WHERE WHAT IT READS IS OF BULK AT MOST 1048576: true; the input reads as it did. -/
def needTellsUptoRow : OpenClaim := { program := "ytopfmnkohfcggaa", sum := "ee0a1c5f332190c1be0c6e233d66423132ef38e5ac6a3b54105acbccba79d17a", func := "bramble/bramblelaw10.NeedTells", spec := "needTells", apart := false, narrowed := true }
def NeedTellsUptoSaid : Prop := needTellsUptoRow.holds Try.pinned (OpenSpec.upto needTellsSpec)

/-- 'bramblelaw10.NeedParts', WHERE WHAT IT READS IS OF BULK AT MOST 1048576: true; the input reads as it did. -/
def needPartsUptoRow : OpenClaim := { program := "ytopfmnkohfcggaa", sum := "ee0a1c5f332190c1be0c6e233d66423132ef38e5ac6a3b54105acbccba79d17a", func := "bramble/bramblelaw10.NeedParts", spec := "needParts", apart := false, narrowed := true }
def NeedPartsUptoSaid : Prop := needPartsUptoRow.holds Try.pinned (OpenSpec.upto needPartsSpec)

/-- 'bramblelaw1.KeyBits', WHERE WHAT IT READS IS OF BULK AT MOST 1048576: true; the input reads as it did. -/
def keyBitsUptoRow : OpenClaim := { program := "ytopfmnkohfcggaa", sum := "ee0a1c5f332190c1be0c6e233d66423132ef38e5ac6a3b54105acbccba79d17a", func := "bramble/bramblelaw1.KeyBits", spec := "keyBits", inPlace := ["internal/bytealg.Compare"], apart := false, narrowed := true }
def KeyBitsUptoSaid : Prop := keyBitsUptoRow.holds Try.pinned (OpenSpec.upto keyBitsSpec)

/-- 'bramblelaw1.KeyLong', WHERE WHAT IT READS IS OF BULK AT MOST 1048576: true; the input reads as it did. -/
def keyLongUptoRow : OpenClaim := { program := "ytopfmnkohfcggaa", sum := "ee0a1c5f332190c1be0c6e233d66423132ef38e5ac6a3b54105acbccba79d17a", func := "bramble/bramblelaw1.KeyLong", spec := "keyLong", inPlace := ["internal/bytealg.Compare"], apart := false, narrowed := true }
def KeyLongUptoSaid : Prop := keyLongUptoRow.holds Try.pinned (OpenSpec.upto keyLongSpec)

/-- 'bramblelaw1.KeyThree', WHERE WHAT IT READS IS OF BULK AT MOST 1048576: true; the input reads as it did. -/
def keyThreeUptoRow : OpenClaim := { program := "ytopfmnkohfcggaa", sum := "ee0a1c5f332190c1be0c6e233d66423132ef38e5ac6a3b54105acbccba79d17a", func := "bramble/bramblelaw1.KeyThree", spec := "keyThree", inPlace := ["internal/bytealg.Compare"], apart := false, narrowed := true }
def KeyThreeUptoSaid : Prop := keyThreeUptoRow.holds Try.pinned (OpenSpec.upto keyThreeSpec)

/-- 'bramblelaw1.KeyWays', WHERE WHAT IT READS IS OF BULK AT MOST 1048576: true; the input reads as it did. -/
def keyWaysUptoRow : OpenClaim := { program := "ytopfmnkohfcggaa", sum := "ee0a1c5f332190c1be0c6e233d66423132ef38e5ac6a3b54105acbccba79d17a", func := "bramble/bramblelaw1.KeyWays", spec := "keyWays", inPlace := ["internal/bytealg.Compare"], apart := false, narrowed := true }
def KeyWaysUptoSaid : Prop := keyWaysUptoRow.holds Try.pinned (OpenSpec.upto keyWaysSpec)

/-- 'bramblelaw1.KeyTells', WHERE WHAT IT READS IS OF BULK AT MOST 1048576: true; the input reads as it did. -/
def keyTellsUptoRow : OpenClaim := { program := "ytopfmnkohfcggaa", sum := "ee0a1c5f332190c1be0c6e233d66423132ef38e5ac6a3b54105acbccba79d17a", func := "bramble/bramblelaw1.KeyTells", spec := "keyTells", inPlace := ["internal/bytealg.Compare"], apart := false, narrowed := true }
def KeyTellsUptoSaid : Prop := keyTellsUptoRow.holds Try.pinned (OpenSpec.upto keyTellsSpec)

/-- 'bramblelaw1.KeyBehind', WHERE WHAT IT READS IS OF BULK AT MOST 1048576: true; the input reads as it did. -/
def keyBehindUptoRow : OpenClaim := { program := "ytopfmnkohfcggaa", sum := "ee0a1c5f332190c1be0c6e233d66423132ef38e5ac6a3b54105acbccba79d17a", func := "bramble/bramblelaw1.KeyBehind", spec := "keyBehind", inPlace := ["internal/bytealg.Compare"], apart := false, narrowed := true }
def KeyBehindUptoSaid : Prop := keyBehindUptoRow.holds Try.pinned (OpenSpec.upto keyBehindSpec)

end Rows
end Go.Proofs.Ytopfmnkohfcggaa
