/- The plain map of chapter 7, and copies of pairs: what these functions answer. -/
import Derived.Test.YtbcflfkajkmkdaaDoorPrs
namespace Go.Proofs.YtbcflfkajkmkdaaDoor.X
open Go Go.Proofs
set_option linter.unusedVariables false
set_option maxRecDepth 10000
set_option maxHeartbeats 1000000

/-- a map of chapter 7: where it stands, its pairs -/
structure Mp (H : Heap) (b : Nat) (l : List Pr) : Prop where
  row : ∃ u, Blk H b [u] ∧ Ps H u l
theorem str_list (l : Bytes) : ByteArray.toList ⟨l.toArray⟩ = l := by rw [Lib.toList_data]

end Go.Proofs.YtbcflfkajkmkdaaDoor.X
