/- Rising keys, in plain words: what stands where, what a key has. No program in it. -/
import Derived.Test.YtkdmcbacofafpaaDoorKr
namespace Go.Proofs.YtkdmcbacofafpaaDoor.X
open Go
set_option linter.unusedVariables false
set_option linter.unusedSimpArgs false

theorem cmp_lt_trans {a b c : Bytes} (h : cmpB a b = -1) (h' : cmpB b c = -1) : cmpB a c = -1 := by
  have h1 := cmp_trans (a := a) (b := b) (c := c) (by omega) (by omega)
  rcases cmp_eq3 a c with h2 | h2 | h2
  · exact h2
  · have := cmp_zero.1 h2
    subst this
    have := cmp_anti a b
    omega
  · omega
theorem cmp_le_lt {a b c : Bytes} (h : cmpB a b ≤ 0) (h' : cmpB b c = -1) : cmpB a c = -1 := by
  rcases cmp_eq3 a b with h2 | h2 | h2
  · exact cmp_lt_trans h2 h'
  · rw [cmp_zero.1 h2]; exact h'
  · omega
theorem cmp_lt_le {a b c : Bytes} (h : cmpB a b = -1) (h' : cmpB b c ≤ 0) : cmpB a c = -1 := by
  rcases cmp_eq3 b c with h2 | h2 | h2
  · exact cmp_lt_trans h h2
  · rw [← cmp_zero.1 h2]; exact h
  · omega
theorem rises_cons {p : Pr} {l : List Pr} : rises (p :: l) = true ↔ (∀ q ∈ l, cmpB p.1 q.1 = -1) ∧ rises l = true := by
  induction l generalizing p with
  | nil => simp [rises]
  | cons q l ih =>
    rw [rises, Bool.and_eq_true, decide_eq_true_eq]
    constructor
    · rintro ⟨h1, h2⟩
      refine ⟨fun r hr => ?_, h2⟩
      rcases List.mem_cons.1 hr with rfl | hr
      · exact h1
      · exact cmp_lt_trans h1 ((ih.1 h2).1 r hr)
    · rintro ⟨h1, h2⟩
      exact ⟨h1 q (by simp), h2⟩
theorem rises_lt {l : List Pr} (h : rises l = true) {i j : Nat} {p q : Pr} (hij : i < j) (hp : l[i]? = some p) (hq : l[j]? = some q) : cmpB p.1 q.1 = -1 := by
  induction l generalizing i j with
  | nil => simp at hp
  | cons a l ih =>
    obtain ⟨h1, h2⟩ := rises_cons.1 h
    cases j with
    | zero => omega
    | succ j =>
      simp at hq
      cases i with
      | zero =>
        simp at hp
        subst hp
        exact h1 q (List.mem_of_getElem? hq)
      | succ i =>
        simp at hp
        exact ih h2 (by omega) hp hq
theorem rank_at {l : List Pr} {k : Bytes} {j : Nat} (hj : j ≤ l.length) (h : ∀ (i : Nat) (p : Pr), i < j → l[i]? = some p → cmpB p.1 k = -1) (h' : ∀ p, l[j]? = some p → cmpB p.1 k ≠ -1) : rank l k = j := by
  induction l generalizing j with
  | nil => simp at hj; subst hj; rfl
  | cons p l ih =>
    cases j with
    | zero =>
      unfold rank
      rw [if_neg (h' p rfl)]
    | succ j =>
      unfold rank
      rw [if_pos (h 0 p (by omega) rfl), ih (by simpa using hj) (fun i q hi hq => h (i + 1) q (by omega) (by simpa using hq)) (fun q hq => h' q (by simpa using hq))]
theorem getM_at {l : List Pr} {k : Bytes} {j : Nat} (hj : j ≤ l.length) (h : ∀ (i : Nat) (p : Pr), i < j → l[i]? = some p → cmpB p.1 k = -1) (h' : ∀ p, l[j]? = some p → cmpB p.1 k ≠ -1) :
    getM l k = match l[j]? with | some p => if p.1 = k then some p.2 else none | none => none := by
  unfold getM
  rw [rank_at hj h h']
  cases l[j]? <;> rfl
end Go.Proofs.YtkdmcbacofafpaaDoor.X
