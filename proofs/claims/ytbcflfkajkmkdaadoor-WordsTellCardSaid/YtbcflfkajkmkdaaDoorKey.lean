/- The packages key and need: what their functions answer. -/
import Derived.Test.YtbcflfkajkmkdaaDoorTypes
import Derived.Test.YtbcflfkajkmkdaaDoorKp
namespace Go.Proofs.YtbcflfkajkmkdaaDoor.X
open Go Go.Proofs
set_option linter.unusedVariables false
set_option maxRecDepth 10000

theorem hpmt {H : Heap} {p : Heap → Prop} (h : p H) : ∀ H', H' = H → p H' := fun _ e => e ▸ h

theorem tdiv9 {i : Int} (hi : -9223372036854775808 ≤ i ∧ i ≤ 9223372036854775807) : -9223372036854775808 ≤ i.tdiv 9 ∧ i.tdiv 9 ≤ 9223372036854775807 := by
  rcases Int.eq_nat_or_neg i with ⟨m, rfl | rfl⟩
  · have hq : (m : Int).tdiv 9 = ((m / 9 : Nat) : Int) := rfl
    omega
  · have hq : (m : Int).tdiv 9 = ((m / 9 : Nat) : Int) := rfl
    rw [Int.neg_tdiv, hq]
    omega

end Go.Proofs.YtbcflfkajkmkdaaDoor.X
