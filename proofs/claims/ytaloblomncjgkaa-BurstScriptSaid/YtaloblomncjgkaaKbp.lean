/- Tries that pairs are put into, one by one; the longest beginning. No program in it. -/
import Derived.Test.YtaloblomncjgkaaKbs
import Derived.Test.YtaloblomncjgkaaFlo
namespace Go.Proofs.Ytaloblomncjgkaa.X
open Go
set_option linter.unusedVariables false
set_option linter.unusedSimpArgs false
set_option maxRecDepth 10000

theorem begins_nil' (k : Bytes) : begins k [] = true := begins_iff.2 ⟨k, rfl⟩
/-- pairs put one by one -/
def puts (l : List Pr) : BT := l.foldl (fun t p => t.put [] p) .nil
theorem puts_take {l : List Pr} {j : Nat} {p : Pr} (h : l[j]? = some p) : puts (l.take (j + 1)) = (puts (l.take j)).put [] p := by
  unfold puts
  rw [List.take_add_one, h, List.foldl_append]
  rfl
theorem puts_facts {g : Nat} (hg : g ≤ 65535) : ∀ (n : Nat) (l : List Pr), l.length = n → (∀ p ∈ l, p.1.length ≤ g) → (puts l).Wf [] ∧ (puts l).pairs [] = newM l ∧ (puts l).size ≤ n * (g + 9) := by
  intro n
  induction n with
  | zero =>
    intro l hl _
    have : l = [] := List.length_eq_zero_iff.1 hl
    subst this
    exact ⟨trivial, rfl, Nat.zero_le _⟩
  | succ n ih =>
    intro l hl hk
    obtain ⟨p, hp⟩ : ∃ p, l[n]? = some p := ⟨_, List.getElem?_eq_getElem (by omega)⟩
    have hpl := hk p (List.mem_of_getElem? hp)
    have e1 := puts_take hp
    have e2 := newM_take hp
    rw [List.take_of_length_le (by omega)] at e1 e2
    obtain ⟨i1, i2, i3⟩ := ih (l.take n) (by simp; omega) (fun q hq => hk q (List.mem_of_mem_take hq))
    have h1 := (BT.put_size _ i1 (begins_nil' p.1) (by omega)).1
    rw [e1, e2]
    refine ⟨BT.put_wf i1 (begins_nil' _) (by omega), by rw [BT.put_pairs i1.wf0 (begins_nil' _) (by omega), i2], ?_⟩
    rw [Nat.succ_mul]
    simp only [List.length_nil] at h1
    omega
theorem newM_fnd : ∀ (n : Nat) (l : List Pr), l.length = n → ∀ p ∈ l, (fnd (newM l) p.1).isSome = true := by
  intro n
  induction n with
  | zero => intro l hl p hp; rw [List.length_eq_zero_iff.1 hl] at hp; cases hp
  | succ n ih =>
    intro l hl p hp
    obtain ⟨r, hr⟩ : ∃ p, l[n]? = some p := ⟨_, List.getElem?_eq_getElem (by omega)⟩
    have e2 := newM_take hr
    rw [List.take_of_length_le (by omega)] at e2
    rw [e2, fnd_putM (newM_rises _)]
    split
    · rfl
    · rename_i hne
      refine ih (l.take n) (by simp; omega) p ?_
      have e3 : l = l.take n ++ [r] := by
        have := List.take_add_one (l := l) (i := n)
        rw [hr, List.take_of_length_le (by omega)] at this
        simpa using this
      rw [e3] at hp
      rcases List.mem_append.1 hp with h | h
      · exact h
      · simp at h; rw [h] at hne; exact absurd rfl hne
theorem newM_there {l : List Pr} {p : Pr} (hp : p ∈ l) : there (newM l) p.1 = true := by
  rw [← getM_is', ← fnd_getM (newM_rises l)]
  exact newM_fnd _ l rfl p hp

/-! the longest beginning -/
theorem longM_some {l : List Pr} {k : Bytes} {p : Pr} (h : longM l k = some p) : begins k p.1 = true ∧ ∃ i, l[i]? = some p ∧ ∀ (j : Nat) (q : Pr), i < j → l[j]? = some q → begins k q.1 = false := by
  unfold longM at h
  refine ⟨by simpa using List.find?_some h, ?_⟩
  obtain ⟨_, l1, l2, h2, h3⟩ := List.find?_eq_some_iff_append.1 h
  have e : l = l2.reverse ++ p :: l1.reverse := by
    have := congrArg List.reverse h2
    simpa using this
  refine ⟨l2.length, by rw [e, List.getElem?_append_right (by simp)]; simp, fun j q hj hq => ?_⟩
  rw [e, List.getElem?_append_right (by simp; omega)] at hq
  obtain ⟨m, hm⟩ : ∃ m, j - l2.reverse.length = m + 1 := ⟨j - l2.reverse.length - 1, by simp; omega⟩
  rw [hm, List.getElem?_cons_succ] at hq
  have := h3 q (List.mem_reverse.1 (List.mem_of_getElem? hq))
  simpa using this
theorem begins_take {k q : Bytes} (h : begins k q = true) : q = k.take q.length := by
  obtain ⟨m, rfl⟩ := begins_iff.1 h
  simp
theorem begins_of_take (k : Bytes) (n : Nat) : begins k (k.take n) = true := begins_iff.2 ⟨k.drop n, by rw [List.take_append_drop]⟩
theorem cmp_take {k : Bytes} {a b : Nat} (h : a < b) (hb : b ≤ k.length) : cmpB (k.take a) (k.take b) = -1 := by
  have e : k.take b = k.take a ++ (k.drop a).take (b - a) := by
    have : b = a + (b - a) := by omega
    conv => lhs; rw [this, List.take_add]
  rw [e, cmp_pre, if_neg]
  intro e'
  have := congrArg List.length e'
  simp at this
  omega
/-- no longer beginning is there -/
theorem longM_no {l : List Pr} (hr : rises l = true) {k : Bytes} {n : Nat} (hn : n ≤ k.length) (h : ∀ p, longM l k = some p → p.1.length < n) : there l (k.take n) = false := by
  cases hth : there l (k.take n) with
  | false => rfl
  | true =>
    exfalso
    obtain ⟨q, hq, hqk⟩ := there_mem hth
    have hqb : begins k q.1 = true := by rw [hqk]; exact begins_of_take _ _
    cases hlm : longM l k with
    | none =>
      unfold longM at hlm
      have := List.find?_eq_none.1 hlm q (List.mem_reverse.2 hq)
      rw [hqb] at this
      exact this rfl
    | some p =>
      obtain ⟨h1, i, h2, h3⟩ := longM_some hlm
      have h4 := h p hlm
      obtain ⟨j, hj⟩ := List.getElem?_of_mem hq
      have hpe := begins_take h1
      have hlt : cmpB p.1 q.1 = -1 := by rw [hqk, hpe]; exact cmp_take h4 hn
      rcases Nat.lt_trichotomy i j with hij | hij | hij
      · have := h3 j q hij hj
        rw [hqb] at this
        cases this
      · subst hij
        rw [h2] at hj
        cases hj
        rw [cmp_self] at hlt
        omega
      · have h5 := rises_lt hr hij hj h2
        have := cmp_anti p.1 q.1
        omega
/-- of a key that is there it is that -/
theorem longM_self {l : List Pr} (hr : rises l = true) {k : Bytes} (h : there l k = true) : ∃ p, longM l k = some p ∧ p.1 = k := by
  by_cases hp : ∃ p, longM l k = some p ∧ p.1.length = k.length
  · obtain ⟨p, h1, h2⟩ := hp
    refine ⟨p, h1, ?_⟩
    have := begins_take (longM_some h1).1
    rw [this, h2, List.take_length]
  · exfalso
    have := longM_no hr (k := k) (n := k.length) (Nat.le_refl _) (fun p h1 => by
      have h2 : p.1.length ≠ k.length := fun e => hp ⟨p, h1, e⟩
      have h3 := BT.beg_len (longM_some h1).1
      omega)
    rw [List.take_length, h] at this
    cases this
end Go.Proofs.Ytaloblomncjgkaa.X
