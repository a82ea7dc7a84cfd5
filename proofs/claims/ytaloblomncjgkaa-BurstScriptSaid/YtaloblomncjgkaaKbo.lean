/- Where keys stand, and lists from place to place. No program in it. -/
import Derived.Test.YtaloblomncjgkaaKbp
import Derived.Test.YtaloblomncjgkaaMod2
namespace Go.Proofs.Ytaloblomncjgkaa.X
open Go
set_option linter.unusedVariables false
set_option linter.unusedSimpArgs false
section orders
variable {l : List Pr} {i : Nat} {p : Pr}
theorem selI_at (hp : l[i]? = some p) : selI l (i : Int) = some p := by
  have hi := (List.getElem?_eq_some_iff.1 hp).1
  obtain ⟨q, h1, h2⟩ := selI_some (l := l) (i := (i : Int)) (by omega) (by omega)
  have e : ((i : Int)).toNat = i := by omega
  rw [e, hp] at h1
  cases h1
  exact h2
theorem floor_self (hr : rises l = true) (hp : l[i]? = some p) : floorM l p.1 = some p := by
  obtain ⟨h1, h2, _⟩ := rank_self hr hp
  unfold floorM
  rw [h2, if_pos rfl, h1]
  exact selI_at hp
theorem ceil_self (hr : rises l = true) (hp : l[i]? = some p) : ceilM l p.1 = some p := by
  unfold ceilM
  rw [(rank_self hr hp).1]
  exact selI_at hp
theorem rank_next (hr : rises l = true) (hp : l[i]? = some p) : rank l (p.1 ++ [0]) = i + 1 := by
  have hi := (List.getElem?_eq_some_iff.1 hp).1
  have hs : cmpB p.1 (p.1 ++ [0]) = -1 := by rw [cmp_pre, if_neg (by simp)]
  refine rank_at (by omega) (fun a q ha hq => ?_) (fun q hq e => ?_)
  · by_cases hai : a = i
    · subst hai; rw [hp] at hq; cases hq; exact hs
    · exact cmp_lt_trans (rises_lt hr (by omega) hq hp) hs
  · have h1 := rises_lt hr (Nat.lt_succ_self i) hp hq
    have h2 := cmp_anti p.1 q.1
    rcases least_next p.1 q.1 with h | h <;> omega
theorem floor_next (hr : rises l = true) (hp : l[i]? = some p) : ∃ d, floorM l (p.1 ++ [0]) = some d ∧ cmpB d.1 p.1 ≠ -1 := by
  unfold floorM
  have hk := rank_next hr hp
  rcases hth : there l (p.1 ++ [0]) with _ | _
  · refine ⟨p, ?_, by rw [cmp_self]; omega⟩
    rw [if_neg (by simp), hk]
    have e : ((i + 1 : Nat) : Int) - 1 = (i : Int) := by omega
    rw [e]
    exact selI_at hp
  · obtain ⟨q, h1, h2, _⟩ := getM_there.2 hth
    rw [hk] at h1
    refine ⟨q, by rw [if_pos rfl, hk]; exact selI_at h1, ?_⟩
    have h3 : cmpB p.1 q.1 = -1 := by rw [h2, cmp_pre, if_neg (by simp)]
    have := cmp_anti p.1 q.1
    omega
theorem from_nil (l : List Pr) (m : Int) : fromM l [] m = l.take m.toNat := by
  unfold fromM
  rw [rank_nil, List.drop_zero]
theorem from_next (hr : rises l = true) (hp : l[i]? = some p) (m : Int) : fromM l (p.1 ++ [0]) m = (l.drop (i + 1)).take m.toNat := by
  unfold fromM
  rw [rank_next hr hp]
end orders
end Go.Proofs.Ytaloblomncjgkaa.X
