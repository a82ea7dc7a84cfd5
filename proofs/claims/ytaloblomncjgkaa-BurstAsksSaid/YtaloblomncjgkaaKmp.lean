/- Plain maps, more: what is found, what is dropped. No program in it. -/
import Derived.Test.YtaloblomncjgkaaSlc
import Derived.Test.YtaloblomncjgkaaPrs6
namespace Go.Proofs.Ytaloblomncjgkaa.X
open Go
set_option linter.unusedVariables false
set_option linter.unusedSimpArgs false

theorem dropM_mem {l : List Pr} {k : Bytes} {p : Pr} (h : p ∈ dropM l k) : p ∈ l := by
  unfold dropM at h
  split at h
  · rcases List.mem_append.1 h with h | h
    · exact List.mem_of_mem_take h
    · exact List.mem_of_mem_drop h
  · exact h
theorem dropM_length (l : List Pr) (k : Bytes) : (dropM l k).length ≤ l.length := by
  unfold dropM
  split <;> simp <;> omega
theorem dropM_length_ge (l : List Pr) (k : Bytes) : l.length ≤ (dropM l k).length + 1 := by
  unfold dropM
  split <;> simp <;> omega
theorem dropM_rises {l : List Pr} (h : rises l = true) (k : Bytes) : rises (dropM l k) = true := by
  unfold dropM
  split
  · have e : l.take (rank l k) ++ l.drop (rank l k + 1) = l.eraseIdx (rank l k) := by rw [List.eraseIdx_eq_take_drop_succ]
    rw [e]
    exact rises_pw.2 ((rises_pw.1 h).sublist (List.eraseIdx_sublist _ _))
  · exact h
theorem rank_self {l : List Pr} (hr : rises l = true) {i : Nat} {p : Pr} (hp : l[i]? = some p) : rank l p.1 = i ∧ there l p.1 = true ∧ getM l p.1 = some p.2 := by
  have hi := (List.getElem?_eq_some_iff.1 hp).1
  have h1 : rank l p.1 = i := rank_at (by omega) (fun j q hj hq => rises_lt hr hj hq hp) (fun q hq => by rw [hp] at hq; cases hq; rw [cmp_self]; omega)
  refine ⟨h1, ?_, ?_⟩
  · unfold there; rw [h1, hp]; simp
  · unfold getM; rw [h1, hp]; simp
theorem mem_self {l : List Pr} (hr : rises l = true) {p : Pr} (hp : p ∈ l) : there l p.1 = true ∧ getM l p.1 = some p.2 := by
  obtain ⟨i, hi⟩ := List.getElem?_of_mem hp
  exact (rank_self hr hi).2
theorem there_mem {l : List Pr} {k : Bytes} (h : there l k = true) : ∃ p ∈ l, p.1 = k := by
  obtain ⟨p, h1, h2, _⟩ := getM_there.2 h
  exact ⟨p, List.mem_of_getElem? h1, h2⟩
theorem putM_there' {l : List Pr} {k : Bytes} {x : Int} (h : there l k = true) : putM l k x = l.set (rank l k) (k, x) := by
  obtain ⟨p, h1, h2, h3⟩ := getM_there.2 h
  have hlt := (List.getElem?_eq_some_iff.1 h1).1
  unfold putM
  rw [h, if_pos rfl, List.set_eq_take_append_cons_drop, if_pos hlt]
theorem putM_not' {l : List Pr} {k : Bytes} {x : Int} (h : there l k = false) : putM l k x = l.take (rank l k) ++ (k, x) :: l.drop (rank l k) := by
  unfold putM
  rw [h]
  simp
theorem newM_self {l : List Pr} (h : rises l = true) : newM l = l := by
  have key : ∀ (r m : List Pr), rises (m ++ r) = true → r.foldl (fun m p => putM m p.1 p.2) m = m ++ r := by
    intro r
    induction r with
    | nil => intro m _; simp
    | cons p r ih =>
      intro m hm
      have hpw := rises_pw.1 hm
      have hlt : ∀ q ∈ m, cmpB q.1 p.1 = -1 := fun q hq => (List.pairwise_append.1 hpw).2.2 q hq p (by simp)
      have hrk : rank m p.1 = m.length := rank_at (Nat.le_refl _) (fun i q _ hq => hlt q (List.mem_of_getElem? hq)) (fun q hq => by rw [List.getElem?_eq_none (Nat.le_refl _)] at hq; cases hq)
      have hth : there m p.1 = false := there_end (by omega)
      have e : putM m p.1 p.2 = m ++ [p] := by rw [putM_not' hth, hrk]; simp
      rw [List.foldl_cons, e, ih (m ++ [p]) (by simpa using hm)]
      simp
  simpa [newM] using key l [] (by simpa using h)
theorem getM_is' (l : List Pr) (k : Bytes) : (getM l k).isSome = there l k := by
  cases h : there l k with
  | false => rw [getM_there.1 h]; rfl
  | true => obtain ⟨p, _, _, h2⟩ := getM_there.2 h; rw [h2]; rfl
/-- what a key has, looked for from the front -/
theorem fnd_mem {l : List Pr} {k : Bytes} {x : Int} (h : fnd l k = some x) : (k, x) ∈ l := by
  induction l with
  | nil => simp [fnd] at h
  | cons p l ih =>
    unfold fnd at h
    split at h
    · rename_i hp
      cases h
      exact List.mem_cons.2 (.inl (by rw [← hp]))
    · exact List.mem_cons_of_mem _ (ih h)
theorem fnd_of_mem {l : List Pr} (hr : rises l = true) {p : Pr} (hp : p ∈ l) : fnd l p.1 = some p.2 := by
  induction l with
  | nil => cases hp
  | cons q l ih =>
    obtain ⟨h1, h2⟩ := rises_cons.1 hr
    unfold fnd
    rcases List.mem_cons.1 hp with rfl | hp
    · rw [if_pos rfl]
    · rw [if_neg (fun e => by have := h1 p hp; rw [e, cmp_self] at this; omega)]
      exact ih h2 hp
theorem fnd_not {l : List Pr} {k : Bytes} (h : ∀ p ∈ l, p.1 ≠ k) : fnd l k = none := fnd_none h
theorem fnd_getM {l : List Pr} (hr : rises l = true) (k : Bytes) : fnd l k = getM l k := by
  cases h : there l k with
  | false =>
    rw [getM_there.1 h]
    exact fnd_none fun p hp e => by
      have := (mem_self hr hp).1
      rw [e, h] at this
      cases this
  | true =>
    obtain ⟨p, h1, h2, h3⟩ := getM_there.2 h
    rw [h3, ← h2]
    exact fnd_of_mem hr (List.mem_of_getElem? h1)
theorem fnd_filter {P : Pr → Bool} : ∀ {l : List Pr} {k : Bytes}, (∀ p ∈ l, p.1 = k → P p = true) → fnd (l.filter P) k = fnd l k := by
  intro l
  induction l with
  | nil => intro k _; rfl
  | cons p l ih =>
    intro k h
    have ih' := ih (k := k) (fun q hq => h q (List.mem_cons_of_mem _ hq))
    by_cases hk : p.1 = k
    · rw [List.filter_cons, if_pos (h p (by simp) hk)]
      unfold fnd
      rw [if_pos hk, if_pos hk]
    · rw [List.filter_cons]
      split
      · unfold fnd
        rw [if_neg hk, if_neg hk]
        exact ih'
      · rw [ih']
        conv => rhs; unfold fnd
        rw [if_neg hk]
theorem fnd_putM {l : List Pr} (hr : rises l = true) (k q : Bytes) (x : Int) : fnd (putM l k x) q = if q = k then some x else fnd l q := by
  have hr' := putM_rises hr k x
  by_cases h : q = k
  · subst h
    rw [if_pos rfl]
    have hm : (q, x) ∈ putM l q x := by unfold putM; simp
    exact fnd_of_mem hr' hm
  · rw [if_neg h]
    cases hf : fnd l q with
    | some y =>
      have hm := fnd_mem hf
      obtain ⟨i, hi⟩ := List.getElem?_of_mem hm
      have hm' : (q, y) ∈ putM l k x := by
        cases hth : there l k with
        | true =>
          rw [putM_there' hth]
          obtain ⟨p, h1, h2, _⟩ := getM_there.2 hth
          have hne : rank l k ≠ i := fun e => by rw [e, hi] at h1; cases h1; exact h h2
          exact List.mem_of_getElem? (i := i) (by rw [List.getElem?_set_ne hne]; exact hi)
        | false =>
          rw [putM_not' hth]
          have : (q, y) ∈ l.take (rank l k) ∨ (q, y) ∈ l.drop (rank l k) := by rw [← List.mem_append, List.take_append_drop]; exact hm
          rcases this with h | h
          · exact List.mem_append.2 (.inl h)
          · exact List.mem_append.2 (.inr (List.mem_cons_of_mem _ h))
      exact fnd_of_mem hr' hm'
    | none =>
      refine fnd_none fun p hp e => ?_
      rcases putM_mem hp with rfl | hp
      · exact h e.symm
      · have := fnd_of_mem hr hp
        rw [e, hf] at this
        cases this
theorem fnd_dropM {l : List Pr} (hr : rises l = true) (k q : Bytes) : fnd (dropM l k) q = if q = k then none else fnd l q := by
  have hr' := dropM_rises hr k
  cases hth : there l k with
  | false =>
    have e : dropM l k = l := by unfold dropM; rw [hth]; simp
    rw [e]
    split
    · rename_i h
      subst h
      rw [fnd_getM hr, getM_there.1 hth]
    · rfl
  | true =>
    obtain ⟨p, h1, h2, _⟩ := getM_there.2 hth
    have e : dropM l k = l.take (rank l k) ++ l.drop (rank l k + 1) := by unfold dropM; rw [hth]; simp
    have hlt := (List.getElem?_eq_some_iff.1 h1).1
    have hsp : l = l.take (rank l k) ++ p :: l.drop (rank l k + 1) := by
      have h5 := List.drop_eq_getElem_cons hlt
      rw [(List.getElem?_eq_some_iff.1 h1).2] at h5
      rw [← h5, List.take_append_drop]
    have hpw := rises_pw.1 hr
    rw [hsp] at hpw
    obtain ⟨_, hb, hc⟩ := List.pairwise_append.1 hpw
    obtain ⟨hd, _⟩ := List.pairwise_cons.1 hb
    by_cases h : q = k
    · rw [if_pos h]
      refine fnd_none fun r hrm e' => ?_
      rw [e] at hrm
      rcases List.mem_append.1 hrm with hm | hm
      · have := hc r hm p (by simp)
        unfold lt1 at this
        rw [e', h, h2, cmp_self] at this
        omega
      · have := hd r hm
        unfold lt1 at this
        rw [e', h, h2, cmp_self] at this
        omega
    · rw [if_neg h]
      cases hf : fnd l q with
      | none => exact fnd_none fun r hrm e' => by
                  have := fnd_of_mem hr (dropM_mem hrm)
                  rw [e', hf] at this
                  cases this
      | some y =>
        have hm := fnd_mem hf
        refine fnd_of_mem hr' (p := (q, y)) ?_
        rw [e]
        rw [hsp] at hm
        rcases List.mem_append.1 hm with hm | hm
        · exact List.mem_append.2 (.inl hm)
        · rcases List.mem_cons.1 hm with rfl | hm
          · exact absurd h2 h
          · exact List.mem_append.2 (.inr hm)
theorem fnd_append' (l m : List Pr) (k : Bytes) : fnd (l ++ m) k = (fnd l k).or (fnd m k) := fnd_append l m k
end Go.Proofs.Ytaloblomncjgkaa.X
