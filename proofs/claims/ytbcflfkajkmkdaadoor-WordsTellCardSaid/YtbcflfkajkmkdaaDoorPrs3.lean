/- The plain map of chapter 7, more: what is put, whether keys rise. -/
import Derived.Test.YtbcflfkajkmkdaaDoorPrs2
namespace Go.Proofs.YtbcflfkajkmkdaaDoor.X
open Go Go.Proofs
set_option linter.unusedVariables false
set_option maxRecDepth 10000
set_option maxHeartbeats 1000000

theorem rises_iff (l : List Pr) : rises l = true ↔ ∀ (i : Nat) (p q : Pr), l[i]? = some p → l[i + 1]? = some q → cmpB p.1 q.1 = -1 := by
  induction l with
  | nil => simp [rises]
  | cons a l ih =>
    cases l with
    | nil => simp [rises]
    | cons b l =>
      rw [rises, Bool.and_eq_true, decide_eq_true_eq, ih]
      constructor
      · rintro ⟨h1, h2⟩ i p q hp hq
        cases i with
        | zero => simp at hp hq; subst hp hq; exact h1
        | succ i => exact h2 i p q (by simpa using hp) (by simpa using hq)
      · intro h
        exact ⟨h 0 a b rfl rfl, fun i p q hp hq => h (i + 1) p q (by simpa using hp) (by simpa using hq)⟩

end Go.Proofs.YtbcflfkajkmkdaaDoor.X
