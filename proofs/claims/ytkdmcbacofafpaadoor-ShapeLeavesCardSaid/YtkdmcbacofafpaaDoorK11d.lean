/- What chapter 11 reads of one cell alone, and of two of it. No program in it. -/
import Derived.Test.YtkdmcbacofafpaaDoorL11b
namespace Go.Proofs.YtkdmcbacofafpaaDoor.X
open Go
set_option linter.unusedVariables false
set_option linter.unusedSimpArgs false
set_option maxRecDepth 10000

def lfC (kind : Int) (k : Bytes) (v : Int) : Cel := if kind = 3 then { kind := 3, count := 1, val := v } else if kind = 11 then { kind := 11, kids := 1, count := 1, pairs := [(k, v)] } else { kind := kind, count := 1, val := v, key := k }
def lfT (kind : Int) : Int := if kind = 1 then 1 else if kind = 3 then 2 else if kind = 5 then 3 else if kind = 11 then 4 else 0
theorem lf_small {kind : Int} {k : Bytes} {v : Int} (hk : k.length ≤ 60) : SmallOne (lfC kind k v) := by
  unfold lfC
  split
  · exact ⟨Nat.zero_le _, Nat.zero_le _, fun p hp => by cases hp⟩
  · split
    · exact ⟨Nat.zero_le _, by dsimp only [List.length]; omega, fun p hp => by rw [List.mem_singleton.1 hp]; exact hk⟩
    · exact ⟨hk, Nat.zero_le _, fun p hp => by cases hp⟩
theorem lf_num {kind : Int} {k : Bytes} {v : Int} (h1 : 1 ≤ kind) (h2 : kind ≤ 11) : NumC (lfC kind k v) := by
  unfold lfC
  split
  · exact ⟨by constructor <;> dsimp only <;> omega, by constructor <;> dsimp only <;> omega, by constructor <;> dsimp only <;> omega⟩
  · split
    · exact ⟨by constructor <;> dsimp only <;> omega, by constructor <;> dsimp only <;> omega, by constructor <;> dsimp only <;> omega⟩
    · exact ⟨by constructor <;> dsimp only <;> omega, by constructor <;> dsimp only <;> omega, by constructor <;> dsimp only <;> omega⟩
section
variable {kind : Int} {k : Bytes} {v : Int} {l : List Cel}
theorem lf_crit (hk : k.length ≤ 60) (hc : l[0]? = some (lfC kind k v)) (f : Nat) : ∃ P : List Pr, P.length = 1 ∧ rdC (f + 1) l 0 (-1) = if kind = 1 then some ⟨P, 1, 1⟩ else none := by
  rw [rdC_some hc]
  refine ⟨[((lfC kind k v).key, (lfC kind k v).val)], rfl, ?_⟩
  have hI : ¬ InnerC (lfC kind k v) (-1) := fun h => by
    have := h.kids
    unfold lfC at this
    split at this
    · cases this
    · split at this <;> cases this
  rw [if_neg hI]
  by_cases h1 : kind = 1
  · subst h1
    rw [if_pos rfl, if_pos ⟨rfl, rfl, rfl, rfl, rfl, rfl, rfl, by show k.length ≤ _; omega⟩]
  · rw [if_neg h1, if_neg (fun h => by
      have := h.kind
      unfold lfC at this
      split at this
      · cases this
      · split at this
        · cases this
        · exact h1 this)]
theorem lf_tern (hc : l[0]? = some (lfC kind k v)) (f : Nat) (i : Nat) (hi : l[i]? = some (lfC kind k v)) : rdT (f + 1) l i [] (-1) 256 = none := by
  rw [rdT_some hi, if_neg]
  intro h
  have h1 := h.kind
  have h2 := h.full
  unfold lfC at h1 h2
  split at h1
  · cases h1
  · split at h1
    · cases h1
    · rename_i e1 e2
      rw [if_neg e1, if_neg e2] at h2
      rcases h2 with h2 | h2
      · cases h2
      · have := h2.2; dsimp only at this; omega
theorem lf_terns (hc : l[0]? = some (lfC kind k v)) (h1 : l.length = 1) : ∃ P : List Pr, P.length = 1 ∧ rdTs l = if kind = 3 then some ⟨P, 1, 1⟩ else none := by
  refine ⟨[([], v)], rfl, ?_⟩
  have ht := lf_tern hc l.length 0 hc
  unfold rdTs
  rw [hc]
  simp only
  by_cases h3 : kind = 3
  · subst h3
    rw [if_pos (show (lfC 3 k v).kind = 3 from rfl), if_pos rfl, if_pos ⟨rfl, rfl, rfl, rfl, rfl, rfl, rfl⟩, if_pos h1]
    rfl
  · rw [if_neg h3, if_neg, ht]
    unfold lfC
    rw [if_neg h3]
    split
    · intro e; cases e
    · exact h3
theorem lf_radix (hk : k.length ≤ 60) (hc : l[0]? = some (lfC kind k v)) (f : Nat) : ∃ P : List Pr, P.length = 1 ∧ rdR (f + 1) l 0 [] = if kind = 5 then some ⟨P, 1, 1⟩ else none := by
  rw [rdR_some hc]
  refine ⟨[((lfC kind k v).key, (lfC kind k v).val)], rfl, ?_⟩
  have hkl := (lf_small (kind := kind) (v := v) hk).key
  rw [if_pos ⟨begins_iff.2 ⟨_, rfl⟩, by omega⟩]
  by_cases h5 : kind = 5
  · subst h5
    rw [if_pos rfl, if_pos ⟨rfl, rfl, rfl, rfl, rfl, rfl, rfl, by show k.length ≤ _; omega⟩]
  · rw [if_neg h5, if_neg (fun h => by
      have := h.kind
      unfold lfC at this
      split at this
      · cases this
      · split at this
        · cases this
        · exact h5 this), if_neg (fun h => by
      have := h.two
      unfold lfC at this
      split at this
      · simp at this
      · split at this <;> simp at this)]
theorem lf_burst (hk : k.length ≤ 60) (hc : l[0]? = some (lfC kind k v)) (f : Nat) : ∃ P : List Pr, P.length = 1 ∧ rdB (f + 1) l 0 [] = if kind = 11 then some ⟨P, 1, 1⟩ else none := by
  refine ⟨[(k, v)], rfl, ?_⟩
  unfold rdB readB
  rw [hc]
  simp only
  by_cases h11 : kind = 11
  · subst h11
    have hok : okB (lfC 11 k v) [] = true := by
      unfold okB
      rw [Bool.and_eq_true]
      refine ⟨okS_yes ⟨rfl, rfl, by simp [lfC], by simp [lfC], rfl, rfl, rfl, ?_⟩, by simp [begins_nil, lfC]⟩
      show longs [(k, v)] = false
      unfold longs
      simp
      omega
    have hC : okC (lfC 11 k v) [] := ⟨rfl, rfl, rfl⟩
    have hkd : (lfC 11 k v).kind = 11 := rfl
    simp only [if_pos hC, if_pos hkd, hok, if_true]
    rfl
  · rw [if_neg h11]
    have hk11 : ¬ (lfC kind k v).kind = 11 := by
      unfold lfC
      split
      · intro e; cases e
      · exact h11
    rw [if_neg hk11]
    have hn : ∀ w, (nodeB (readB f l) l (lfC kind k v) 0 w).ok = false := by
      intro w
      have e0 : (lfC kind k v).kids = 0 := by
        unfold lfC
        split
        · rfl
        · rfl
      have ef : (lfC kind k v).full = false := by
        unfold lfC
        split
        · rfl
        · rfl
      have ec : (lfC kind k v).count = 1 := by
        unfold lfC
        split
        · rfl
        · rfl
      unfold nodeB
      rw [e0]
      show (endB (lfC kind k v) (beginB (lfC kind k v) 0)).ok = false
      unfold endB beginB
      rw [ec, ef]
      rfl
    split
    · split
      · rw [hn]; rfl
      · rfl
    · rfl
theorem lfT_1 : 1 = lfT kind ↔ kind = 1 := by unfold lfT; repeat' split <;> omega
theorem lfT_2 : 2 = lfT kind ↔ kind = 3 := by unfold lfT; repeat' split <;> omega
theorem lfT_3 : 3 = lfT kind ↔ kind = 5 := by unfold lfT; repeat' split <;> omega
theorem lfT_4 : 4 = lfT kind ↔ kind = 11 := by unfold lfT; repeat' split <;> omega
theorem if_iff {α : Type} {p q : Prop} [Decidable p] [Decidable q] {a b : α} (h : p ↔ q) : (if p then a else b) = if q then a else b := by
  by_cases hp : p
  · rw [if_pos hp, if_pos (h.1 hp)]
  · rw [if_neg hp, if_neg (fun e => hp (h.2 e))]
theorem one_next {q : Prop} [Decidable q] {o : Option PT} {P : List Pr} (e : o = if q then some ⟨P, 1, 1⟩ else none) {r : PT} (h : o = some r) : r.next = 1 := by
  rw [e] at h
  split at h
  · injection h with h; rw [← h]
  · cases h
theorem lf_in (hk : k.length ≤ 60) (t : Int) (ht1 : 1 ≤ t) (ht2 : t ≤ 4) : ∃ P : List Pr, P.length = 1 ∧ rdIn t [lfC kind k v] = (if t = lfT kind then some ⟨P, 1, 1⟩ else none) ∧ ∀ r, rdIn t [lfC kind k v, lfC kind k v] = some r → r.next = 1 := by
  rcases (by omega : t = 1 ∨ t = 2 ∨ t = 3 ∨ t = 4) with rfl | rfl | rfl | rfl
  · obtain ⟨P, hP, e⟩ := lf_crit (v := v) (l := [lfC kind k v]) hk rfl 1
    obtain ⟨P', hP', e'⟩ := lf_crit (v := v) (l := [lfC kind k v, lfC kind k v]) hk rfl 2
    exact ⟨P, hP, e.trans (if_iff lfT_1.symm), fun r h => one_next e' h⟩
  · obtain ⟨P, hP, e⟩ := lf_terns (k := k) (kind := kind) (v := v) (l := [lfC kind k v]) rfl rfl
    refine ⟨P, hP, e.trans (if_iff lfT_2.symm), fun r h => ?_⟩
    have h : rdTs [lfC kind k v, lfC kind k v] = some r := h
    unfold rdTs at h
    simp only [List.getElem?_cons_zero] at h
    have ha := lf_tern (l := [lfC kind k v, lfC kind k v]) (k := k) (kind := kind) (v := v) rfl 2 1 rfl
    have hb := lf_tern (l := [lfC kind k v, lfC kind k v]) (k := k) (kind := kind) (v := v) rfl 2 0 rfl
    have hl : [lfC kind k v, lfC kind k v].length + 1 = 2 + 1 := rfl
    rw [hl, ha, hb] at h
    split at h
    · split at h
      · split at h
        · rename_i h2; simp at h2
        · cases h
      · cases h
    · cases h
  · obtain ⟨P, hP, e⟩ := lf_radix (v := v) (l := [lfC kind k v]) hk rfl 1
    obtain ⟨P', hP', e'⟩ := lf_radix (v := v) (l := [lfC kind k v, lfC kind k v]) hk rfl 2
    exact ⟨P, hP, e.trans (if_iff lfT_3.symm), fun r h => one_next e' h⟩
  · obtain ⟨P, hP, e⟩ := lf_burst (v := v) (l := [lfC kind k v]) hk rfl 1
    obtain ⟨P', hP', e'⟩ := lf_burst (v := v) (l := [lfC kind k v, lfC kind k v]) hk rfl 2
    exact ⟨P, hP, e.trans (if_iff lfT_4.symm), fun r h => one_next e' h⟩
theorem lf_one (hk : k.length ≤ 60) (t : Int) (ht1 : 1 ≤ t) (ht2 : t ≤ 4) : ∃ P : List Pr, P.length = 1 ∧ rdAll t [lfC kind k v] = if t = lfT kind then some ⟨P, 1, 1⟩ else none := by
  obtain ⟨P, hP, e, _⟩ := lf_in (kind := kind) (v := v) hk t ht1 ht2
  refine ⟨P, hP, ?_⟩
  rw [rdAll_in (by omega) (by simp), e]
  by_cases h : t = lfT kind
  · simp only [if_pos h]; rfl
  · simp only [if_neg h]
theorem lf_two (hk : k.length ≤ 60) (t : Int) (ht1 : 1 ≤ t) (ht2 : t ≤ 4) : rdAll t [lfC kind k v, lfC kind k v] = none := by
  obtain ⟨P, hP, _, e⟩ := lf_in (kind := kind) (v := v) hk t ht1 ht2
  rw [rdAll_in (by omega) (by simp)]
  cases h : rdIn t [lfC kind k v, lfC kind k v] with
  | none => rfl
  | some r =>
    show (if r.next = 2 then some r else none) = none
    rw [if_neg (by have := e r h; omega)]
end
end Go.Proofs.YtkdmcbacofafpaaDoor.X
