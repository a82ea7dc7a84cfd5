/- Two lists of pairs merged: what the statements say of it, in plain words. No program in it. -/
import Derived.Test.YtkdmcbacofafpaaDoorKmrg
import Derived.Test.YtkdmcbacofafpaaDoorKrise
namespace Go.Proofs.YtkdmcbacofafpaaDoor.X
open Go
set_option linter.unusedVariables false
set_option linter.unusedSimpArgs false

abbrev lt1 (p q : Pr) : Prop := cmpB p.1 q.1 = -1
theorem rises_pw {l : List Pr} : rises l = true ↔ l.Pairwise lt1 := by
  induction l with
  | nil => simp [rises]
  | cons p l ih => rw [rises_cons, List.pairwise_cons, ih]

/-- what a key has, wherever it stands -/
def fnd : List Pr → Bytes → Option Int
  | [], _ => none
  | p :: l, k => if p.1 = k then some p.2 else fnd l k
theorem fnd_none {l : List Pr} {k : Bytes} (h : ∀ q ∈ l, q.1 ≠ k) : fnd l k = none := by
  induction l with
  | nil => rfl
  | cons p l ih => rw [fnd, if_neg (h p (by simp)), ih fun q hq => h q (by simp [hq])]
theorem fnd_lt {l : List Pr} {k : Bytes} (h : ∀ q ∈ l, cmpB k q.1 = -1) : fnd l k = none :=
  fnd_none fun q hq e => by have := h q hq; rw [e, cmp_self] at this; omega
theorem fnd_gt {l : List Pr} {k : Bytes} (h : ∀ q ∈ l, cmpB q.1 k = -1) : fnd l k = none :=
  fnd_none fun q hq e => by have := h q hq; rw [e, cmp_self] at this; omega
theorem fnd_append (l m : List Pr) (k : Bytes) : fnd (l ++ m) k = (fnd l k).or (fnd m k) := by
  induction l with
  | nil => simp [fnd]
  | cons p l ih =>
    rw [List.cons_append, fnd, fnd, ih]
    split <;> simp
theorem fnd_ext {a b : List Pr} (ha : rises a = true) (hb : rises b = true) (h : ∀ k, fnd a k = fnd b k) : a = b := by
  induction a generalizing b with
  | nil =>
    cases b with
    | nil => rfl
    | cons q b => have := h q.1; simp [fnd] at this
  | cons p a ih =>
    cases b with
    | nil => have := h p.1; simp [fnd] at this
    | cons q b =>
      obtain ⟨a1, a2⟩ := rises_cons.1 ha
      obtain ⟨b1, b2⟩ := rises_cons.1 hb
      have e1 := h p.1
      have e2 := h q.1
      rcases cmp_eq3 p.1 q.1 with hc | hc | hc
      · have hn : fnd (q :: b) p.1 = none := fnd_lt fun r hr => by
          rcases List.mem_cons.1 hr with rfl | hr
          · exact hc
          · exact cmp_lt_trans hc (b1 r hr)
        rw [hn] at e1
        simp [fnd] at e1
      · have hk := cmp_zero.1 hc
        have hv : p.2 = q.2 := by
          simp only [fnd, if_true] at e1
          rw [if_pos hk.symm] at e1
          exact Option.some.inj e1
        have : a = b := by
          refine ih a2 b2 fun k => ?_
          by_cases hkk : p.1 = k
          · rw [fnd_lt (l := a) (by rw [← hkk]; exact a1), fnd_lt (l := b) (by rw [← hkk, hk]; exact b1)]
          · have := h k
            rw [fnd, fnd, if_neg hkk, if_neg (by rw [← hk]; exact hkk)] at this
            exact this
        rw [this, Prod.ext hk hv]
      · have hc' : cmpB q.1 p.1 = -1 := by have := cmp_anti p.1 q.1; omega
        have hn : fnd (p :: a) q.1 = none := fnd_lt fun r hr => by
          rcases List.mem_cons.1 hr with rfl | hr
          · exact hc'
          · exact cmp_lt_trans hc' (a1 r hr)
        rw [hn] at e2
        simp [fnd] at e2

/-! ### a plain map -/
theorem rank_split (l : List Pr) (k : Bytes) : (∀ p ∈ l.take (rank l k), cmpB p.1 k = -1) ∧ (∀ p, l[rank l k]? = some p → cmpB p.1 k ≠ -1) := by
  induction l with
  | nil => simp [rank]
  | cons p l ih =>
    unfold rank
    split
    · rename_i h
      refine ⟨fun q hq => ?_, fun q hq => ih.2 q (by simpa using hq)⟩
      rw [List.take_succ_cons, List.mem_cons] at hq
      rcases hq with rfl | hq
      · exact h
      · exact ih.1 q hq
    · rename_i h
      exact ⟨by simp, fun q hq => by simp at hq; subst hq; exact h⟩
theorem rank_drop {l : List Pr} (hl : rises l = true) (k : Bytes) : ∀ p ∈ l.drop (rank l k), cmpB k p.1 ≤ 0 := by
  intro p hp
  obtain ⟨j, hj⟩ := List.mem_iff_getElem?.1 hp
  rw [List.getElem?_drop] at hj
  have hlt := (List.getElem?_eq_some_iff.1 hj).1
  have h0 := (rank_split l k).2 _ (List.getElem?_eq_getElem (show rank l k < l.length by omega))
  have hz := cmp_anti k (l[rank l k]'(by omega)).1
  have hle : cmpB k (l[rank l k]'(by omega)).1 ≤ 0 := by
    rcases cmp_eq3 k (l[rank l k]'(by omega)).1 with h | h | h <;> omega
  rcases Nat.eq_zero_or_pos j with rfl | hpos
  · rw [Nat.add_zero, List.getElem?_eq_getElem (show rank l k < l.length by omega)] at hj
    cases hj
    exact hle
  · have := rises_lt hl (show rank l k < rank l k + j by omega) (List.getElem?_eq_getElem (show rank l k < l.length by omega)) hj
    exact cmp_trans hle (by omega)
theorem there_iff {l : List Pr} (hl : rises l = true) (k : Bytes) : there l k = true ↔ ∃ x, l[rank l k]? = some (k, x) := by
  unfold there
  cases h : l[rank l k]? with
  | none => simp
  | some p =>
    obtain ⟨p1, p2⟩ := p
    simp
theorem drop_there {l : List Pr} (hl : rises l = true) (k : Bytes) : ∀ p ∈ l.drop (rank l k + if there l k then 1 else 0), cmpB k p.1 = -1 := by
  intro p hp
  obtain ⟨j, hj⟩ := List.mem_iff_getElem?.1 hp
  rw [List.getElem?_drop] at hj
  cases ht : there l k with
  | true =>
    obtain ⟨x, hx⟩ := (there_iff hl k).1 ht
    rw [ht] at hj
    simp only [if_true] at hj
    have := rises_lt hl (show rank l k < rank l k + 1 + j by omega) hx hj
    exact this
  | false =>
    rw [ht] at hj
    simp only [Bool.false_eq_true, if_false, Nat.add_zero] at hj
    have hm : p ∈ l.drop (rank l k) := List.mem_iff_getElem?.2 ⟨j, by rw [List.getElem?_drop]; exact hj⟩
    have hle := rank_drop hl k p hm
    rcases cmp_eq3 k p.1 with h | h | h
    · exact h
    · exfalso
      have hk := cmp_zero.1 h
      rcases Nat.eq_zero_or_pos j with rfl | hpos
      · have : there l k = true := (there_iff hl k).2 ⟨p.2, by rw [Nat.add_zero] at hj; rw [hj, hk]⟩
        rw [ht] at this
        cases this
      · have hlt := (List.getElem?_eq_some_iff.1 hj).1
        have h1 := rises_lt hl (show rank l k < rank l k + j by omega) (List.getElem?_eq_getElem (show rank l k < l.length by omega)) hj
        have h2 := (rank_split l k).2 _ (List.getElem?_eq_getElem (show rank l k < l.length by omega))
        rw [← hk] at h1
        exact h2 h1
    · omega
theorem putM_rises {l : List Pr} (hl : rises l = true) (k : Bytes) (x : Int) : rises (putM l k x) = true := by
  unfold putM
  rw [rises_pw, List.pairwise_append, List.pairwise_cons]
  have hp := rises_pw.1 hl
  refine ⟨hp.sublist (List.take_sublist _ _), ⟨fun q hq => drop_there hl k q hq, hp.sublist (List.drop_sublist _ _)⟩, fun a ha b hb => ?_⟩
  have h1 := (rank_split l k).1 a ha
  rcases List.mem_cons.1 hb with rfl | hb
  · exact h1
  · exact cmp_lt_trans h1 (drop_there hl k b hb)
theorem foldl_rises (l m : List Pr) (hm : rises m = true) : rises (l.foldl (fun m p => putM m p.1 p.2) m) = true := by
  induction l generalizing m with
  | nil => exact hm
  | cons p l ih => exact ih _ (putM_rises hm _ _)
theorem newM_rises (l : List Pr) : rises (newM l) = true := foldl_rises l [] rfl
theorem putM_mem {l : List Pr} {k : Bytes} {x : Int} {p : Pr} (h : p ∈ putM l k x) : p = (k, x) ∨ p ∈ l := by
  unfold putM at h
  rcases List.mem_append.1 h with h | h
  · exact .inr (List.mem_of_mem_take h)
  · rcases List.mem_cons.1 h with h | h
    · exact .inl h
    · exact .inr (List.mem_of_mem_drop h)
theorem newM_keys {l : List Pr} {n : Nat} (h : ∀ p ∈ l, p.1.length ≤ n) : ∀ p ∈ newM l, p.1.length ≤ n := by
  have : ∀ (l m : List Pr), (∀ p ∈ l, p.1.length ≤ n) → (∀ p ∈ m, p.1.length ≤ n) → ∀ p ∈ l.foldl (fun m p => putM m p.1 p.2) m, p.1.length ≤ n := by
    intro l
    induction l with
    | nil => intro m _ hm; exact hm
    | cons q l ih =>
      intro m hl hm
      refine ih _ (fun p hp => hl p (by simp [hp])) (fun p hp => ?_)
      rcases putM_mem hp with rfl | hp
      · exact hl q (by simp)
      · exact hm p hp
  exact this l [] h (by simp)

/-! ### merging -/
def comb (op policy : Int) : Option Int → Option Int → Option Int
  | some x, some y => if op = 3 then none else some (mval policy x y)
  | some x, none => if op = 2 then none else some x
  | none, some y => if op = 1 then some y else none
  | none, none => none
theorem mrg_mem {op policy : Int} {a b : List Pr} {q : Pr} (h : q ∈ mrg op policy a b) : (∃ p ∈ a, p.1 = q.1) ∨ (∃ p ∈ b, p.1 = q.1) := by
  induction a generalizing b with
  | nil =>
    rw [mrg_nil_l] at h
    split at h
    · exact .inr ⟨q, h, rfl⟩
    · cases h
  | cons p a iha =>
    induction b with
    | nil =>
      rw [mrg_nil_r] at h
      split at h
      · cases h
      · exact .inl ⟨q, h, rfl⟩
    | cons r b ihb =>
      rw [mrg_cons] at h
      split at h
      · rcases List.mem_append.1 h with h | h
        · split at h
          · cases h
          · have : q = p := by simpa using h
            exact .inl ⟨p, by simp, by rw [this]⟩
        · rcases iha h with ⟨s, h1, h2⟩ | h2
          · exact .inl ⟨s, by simp [h1], h2⟩
          · exact .inr h2
      · split at h
        · rcases List.mem_append.1 h with h | h
          · split at h
            · have : q = r := by simpa using h
              exact .inr ⟨r, by simp, by rw [this]⟩
            · cases h
          · rcases ihb h with h2 | ⟨s, h1, h2⟩
            · exact .inl h2
            · exact .inr ⟨s, by simp [h1], h2⟩
        · rcases List.mem_append.1 h with h | h
          · split at h
            · cases h
            · have : q = (p.1, mval policy p.2 r.2) := by simpa using h
              exact .inl ⟨p, by simp, by rw [this]⟩
          · rcases iha h with ⟨s, h1, h2⟩ | ⟨s, h1, h2⟩
            · exact .inl ⟨s, by simp [h1], h2⟩
            · exact .inr ⟨s, by simp [h1], h2⟩
theorem mrg_above {op policy : Int} {a b : List Pr} {k : Bytes} (ha : ∀ p ∈ a, cmpB k p.1 = -1) (hb : ∀ p ∈ b, cmpB k p.1 = -1) : ∀ q ∈ mrg op policy a b, cmpB k q.1 = -1 := by
  intro q hq
  rcases mrg_mem hq with ⟨p, h1, h2⟩ | ⟨p, h1, h2⟩
  · rw [← h2]; exact ha p h1
  · rw [← h2]; exact hb p h1
theorem some_cons {c : Bool} {p : Pr} {l : List Pr} (h : rises l = true) (hp : ∀ q ∈ l, cmpB p.1 q.1 = -1) : rises ((if c then [p] else []) ++ l) = true := by
  cases c with
  | true => exact rises_cons.2 ⟨hp, h⟩
  | false => exact h
theorem mrg_rises (op policy : Int) {a b : List Pr} (ha : rises a = true) (hb : rises b = true) : rises (mrg op policy a b) = true := by
  induction a generalizing b with
  | nil => rw [mrg_nil_l]; split; exact hb; rfl
  | cons p a iha =>
    obtain ⟨a1, a2⟩ := rises_cons.1 ha
    induction b with
    | nil => rw [mrg_nil_r]; split; rfl; exact ha
    | cons q b ihb =>
      obtain ⟨b1, b2⟩ := rises_cons.1 hb
      have up : ∀ r : Pr, cmpB r.1 q.1 = -1 → ∀ s ∈ q :: b, cmpB r.1 s.1 = -1 := fun r hr s hs => by
        rcases List.mem_cons.1 hs with rfl | hs
        · exact hr
        · exact cmp_lt_trans hr (b1 s hs)
      have ua : ∀ r : Pr, cmpB r.1 p.1 = -1 → ∀ s ∈ p :: a, cmpB r.1 s.1 = -1 := fun r hr s hs => by
        rcases List.mem_cons.1 hs with rfl | hs
        · exact hr
        · exact cmp_lt_trans hr (a1 s hs)
      rw [mrg_cons]
      split
      · rename_i h
        have h2 : ∀ s ∈ mrg op policy a (q :: b), cmpB p.1 s.1 = -1 := mrg_above a1 (up p h)
        have h3 := iha a2 hb
        split
        · exact h3
        · exact rises_cons.2 ⟨h2, h3⟩
      · split
        · rename_i h1 h
          have hc : cmpB q.1 p.1 = -1 := by have := cmp_anti p.1 q.1; omega
          have h2 : ∀ s ∈ mrg op policy (p :: a) b, cmpB q.1 s.1 = -1 := mrg_above (ua q hc) b1
          have h3 := ihb b2
          split
          · exact rises_cons.2 ⟨h2, h3⟩
          · exact h3
        · rename_i h1 h
          have hz : cmpB p.1 q.1 = 0 := by rcases cmp_eq3 p.1 q.1 with e | e | e <;> omega
          have hk := cmp_zero.1 hz
          have h2 : ∀ s ∈ mrg op policy a b, cmpB p.1 s.1 = -1 := mrg_above a1 (by rw [hk]; exact b1)
          have h3 := iha a2 b2
          split
          · exact h3
          · exact rises_cons.2 ⟨h2, h3⟩
theorem mrg_fnd (op policy : Int) {a b : List Pr} (ha : rises a = true) (hb : rises b = true) (k : Bytes) : fnd (mrg op policy a b) k = comb op policy (fnd a k) (fnd b k) := by
  induction a generalizing b with
  | nil =>
    rw [mrg_nil_l]
    split
    · cases h : fnd b k <;> simp [fnd, comb, *]
    · cases h : fnd b k <;> simp [fnd, comb, *]
  | cons p a iha =>
    obtain ⟨a1, a2⟩ := rises_cons.1 ha
    induction b with
    | nil =>
      rw [mrg_nil_r]
      split
      · rename_i h
        cases h2 : fnd (p :: a) k <;> simp [fnd, comb, *]
      · rename_i h
        cases h2 : fnd (p :: a) k <;> simp [fnd, comb, *]
    | cons q b ihb =>
      obtain ⟨b1, b2⟩ := rises_cons.1 hb
      rw [mrg_cons]
      split
      · rename_i h
        have h3 := iha a2 hb
        by_cases hk : p.1 = k
        · have hn : fnd (q :: b) k = none := fnd_lt fun s hs => by
            rw [← hk]
            rcases List.mem_cons.1 hs with rfl | hs
            · exact h
            · exact cmp_lt_trans h (b1 s hs)
          have hn2 : fnd a k = none := fnd_lt fun s hs => by rw [← hk]; exact a1 s hs
          rw [fnd_append, h3, hn, hn2, fnd, if_pos hk]
          split <;> simp_all [fnd, comb]
        · rw [fnd_append, h3]
          conv => rhs; rw [fnd, if_neg hk]
          split <;> simp [fnd, hk]
      · split
        · rename_i h1 h
          have hc : cmpB q.1 p.1 = -1 := by have := cmp_anti p.1 q.1; omega
          have h3 := ihb b2
          by_cases hk : q.1 = k
          · have hn : fnd (p :: a) k = none := fnd_lt fun s hs => by
              rw [← hk]
              rcases List.mem_cons.1 hs with rfl | hs
              · exact hc
              · exact cmp_lt_trans hc (a1 s hs)
            have hn2 : fnd b k = none := fnd_lt fun s hs => by rw [← hk]; exact b1 s hs
            rw [fnd_append, h3, hn, hn2]
            conv => rhs; rw [fnd, if_pos hk]
            split <;> simp_all [fnd, comb]
          · rw [fnd_append, h3]
            conv => rhs; arg 4; rw [fnd, if_neg hk]
            split <;> simp [fnd, hk]
        · rename_i h1 h
          have hz : cmpB p.1 q.1 = 0 := by rcases cmp_eq3 p.1 q.1 with e | e | e <;> omega
          have hpq := cmp_zero.1 hz
          have h3 := iha a2 b2
          by_cases hk : p.1 = k
          · have hn : fnd a k = none := fnd_lt fun s hs => by rw [← hk]; exact a1 s hs
            have hn2 : fnd b k = none := fnd_lt fun s hs => by rw [← hk, hpq]; exact b1 s hs
            rw [fnd_append, h3, hn, hn2]
            conv => rhs; rw [fnd, if_pos hk, fnd, if_pos (hpq ▸ hk)]
            split <;> simp_all [fnd, comb]
          · rw [fnd_append, h3]
            conv => rhs; rw [fnd, if_neg hk, fnd, if_neg (fun e => hk (hpq.trans e))]
            split <;> simp [fnd, hk]
theorem mrg_swap {a b : List Pr} (ha : rises a = true) (hb : rises b = true) : mrg 1 1 a b = mrg 1 2 b a := by
  refine fnd_ext (mrg_rises _ _ ha hb) (mrg_rises _ _ hb ha) fun k => ?_
  rw [mrg_fnd _ _ ha hb, mrg_fnd _ _ hb ha]
  cases fnd a k <;> cases fnd b k <;> simp [comb, mval]
theorem mrg_all {a b : List Pr} (ha : rises a = true) (hb : rises b = true) : mrg 1 1 (mrg 1 1 (mrg 3 1 a b) (mrg 3 1 b a)) (mrg 2 1 a b) = mrg 1 1 a b := by
  have h1 := mrg_rises 3 1 ha hb
  have h2 := mrg_rises 3 1 hb ha
  have h3 := mrg_rises 2 1 ha hb
  have h4 := mrg_rises 1 1 h1 h2
  refine fnd_ext (mrg_rises _ _ h4 h3) (mrg_rises _ _ ha hb) fun k => ?_
  rw [mrg_fnd _ _ h4 h3, mrg_fnd _ _ h1 h2, mrg_fnd _ _ ha hb, mrg_fnd _ _ hb ha, mrg_fnd _ _ ha hb, mrg_fnd _ _ ha hb]
  cases fnd a k <;> cases fnd b k <;> simp [comb, mval]
theorem mrg_same {a : List Pr} (ha : rises a = true) : mrg 2 2 a a = a := by
  refine fnd_ext (mrg_rises _ _ ha ha) ha fun k => ?_
  rw [mrg_fnd _ _ ha ha]
  cases fnd a k <;> simp [comb, mval]
theorem mrg_none {a : List Pr} (ha : rises a = true) : mrg 3 3 a a = [] := by
  refine fnd_ext (mrg_rises _ _ ha ha) rfl fun k => ?_
  rw [mrg_fnd _ _ ha ha]
  cases fnd a k <;> simp [comb, fnd]
theorem mrg_count (a b : List Pr) : (mrg 1 1 a b).length = (mrg 2 1 a b).length + (mrg 3 1 a b).length + (mrg 3 1 b a).length := by
  induction a generalizing b with
  | nil => rw [mrg_nil_l, mrg_nil_l, mrg_nil_l, mrg_nil_r]; simp
  | cons p a iha =>
    induction b with
    | nil => rw [mrg_nil_l, mrg_nil_r, mrg_nil_r, mrg_nil_r]; simp
    | cons q b ihb =>
      have hanti := cmp_anti p.1 q.1
      have h1 := iha (q :: b)
      have h2 := iha b
      rcases cmp_eq3 p.1 q.1 with h | h | h
      · rw [mrg_left 1 1 p a (q :: b) (.inr ⟨q, b, rfl, h⟩), mrg_left 2 1 p a (q :: b) (.inr ⟨q, b, rfl, h⟩), mrg_left 3 1 p a (q :: b) (.inr ⟨q, b, rfl, h⟩), mrg_right 3 1 p (q :: b) a (.inr ⟨q, b, rfl, by omega⟩)]
        simp
        omega
      · rw [mrg_both 1 1 p q a b h, mrg_both 2 1 p q a b h, mrg_both 3 1 p q a b h, mrg_both 3 1 q p b a (by omega)]
        simp
        omega
      · rw [mrg_right 1 1 q (p :: a) b (.inr ⟨p, a, rfl, h⟩), mrg_right 2 1 q (p :: a) b (.inr ⟨p, a, rfl, h⟩), mrg_right 3 1 q (p :: a) b (.inr ⟨p, a, rfl, h⟩), mrg_left 3 1 q b (p :: a) (.inr ⟨p, a, rfl, by omega⟩)]
        simp
        omega
/-- parted at a key -/
theorem mrg_parted (op policy : Int) {a1 a2 b1 b2 : List Pr} (h1 : ∀ x ∈ a1, ∀ y ∈ b2, cmpB x.1 y.1 = -1) (h2 : ∀ x ∈ b1, ∀ y ∈ a2, cmpB x.1 y.1 = -1) :
    mrg op policy (a1 ++ a2) (b1 ++ b2) = mrg op policy a1 b1 ++ mrg op policy a2 b2 := by
  induction a1 generalizing b1 with
  | nil =>
    induction b1 with
    | nil => rw [mrg_nil_l]; simp
    | cons q b ihb =>
      have h3 := ihb (fun x hx => h2 x (by simp [hx]))
      rw [mrg_nil_l] at h3 ⊢
      have : mrg op policy ([] ++ a2) (q :: b ++ b2) = (if op = 1 then [q] else []) ++ mrg op policy ([] ++ a2) (b ++ b2) := by
        refine mrg_right op policy q _ _ ?_
        cases a2 with
        | nil => exact .inl rfl
        | cons p a2 => exact .inr ⟨p, a2, rfl, by have := h2 q (by simp) p (by simp); have := cmp_anti q.1 p.1; omega⟩
      rw [this, h3]
      split <;> simp
  | cons p a iha =>
    induction b1 with
    | nil =>
      have h3 := iha (b1 := []) (fun x hx => h1 x (by simp [hx])) (by simp)
      rw [mrg_nil_r] at h3 ⊢
      have : mrg op policy (p :: a ++ a2) ([] ++ b2) = (if op = 2 then [] else [p]) ++ mrg op policy (a ++ a2) ([] ++ b2) := by
        refine mrg_left op policy p _ _ ?_
        cases b2 with
        | nil => exact .inl rfl
        | cons q b2 => exact .inr ⟨q, b2, rfl, h1 p (by simp) q (by simp)⟩
      rw [this, h3]
      split <;> simp
    | cons q b ihb =>
      have h3 := iha (b1 := q :: b) (fun x hx => h1 x (by simp [hx])) h2
      have h4 := ihb (fun x hx => h2 x (by simp [hx]))
      have h5 := iha (b1 := b) (fun x hx => h1 x (by simp [hx])) (fun x hx => h2 x (by simp [hx]))
      rw [List.cons_append, List.cons_append, mrg_cons, mrg_cons]
      split
      · rw [← List.cons_append, h3, List.append_assoc]
      · split
        · rw [← List.cons_append, h4, List.append_assoc]
        · rw [h5, List.append_assoc]
theorem mrg_parts (op policy : Int) {a b : List Pr} (ha : rises a = true) (hb : rises b = true) (k : Bytes) :
    mrg op policy (a.take (rank a k)) (b.take (rank b k)) ++ mrg op policy (a.drop (rank a k)) (b.drop (rank b k)) = mrg op policy a b := by
  rw [← mrg_parted, List.take_append_drop, List.take_append_drop]
  · intro x hx y hy
    exact cmp_lt_le ((rank_split a k).1 x hx) (rank_drop hb k y hy)
  · intro x hx y hy
    exact cmp_lt_le ((rank_split b k).1 x hx) (rank_drop ha k y hy)
theorem rises_take {l : List Pr} (h : rises l = true) (n : Nat) : rises (l.take n) = true := rises_pw.2 ((rises_pw.1 h).sublist (List.take_sublist _ _))
theorem rises_drop {l : List Pr} (h : rises l = true) (n : Nat) : rises (l.drop n) = true := rises_pw.2 ((rises_pw.1 h).sublist (List.drop_sublist _ _))
end Go.Proofs.YtkdmcbacofafpaaDoor.X
