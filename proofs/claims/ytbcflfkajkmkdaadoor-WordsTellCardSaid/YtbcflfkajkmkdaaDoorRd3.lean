/- Chapter 24, the program: a line is read. -/
import Derived.Test.YtbcflfkajkmkdaaDoorRd2
namespace Go.Proofs.YtbcflfkajkmkdaaDoor.X
open Go Go.Proofs Go.RowKit
set_option linter.unusedVariables false
set_option linter.unusedSimpArgs false
set_option maxRecDepth 10000
set_option maxHeartbeats 8000000

/-! ### sizes of what is read -/
theorem partsC_mem {c : UInt8} : ∀ {s p : Bytes}, p ∈ partsC c s → p.length ≤ s.length
  | [], p, h => by simp [partsC] at h; subst h; simp
  | x :: r, p, h => by
    unfold partsC at h
    split at h
    · rw [List.mem_cons] at h
      rcases h with rfl | h
      · simp
      · have := partsC_mem h
        simp only [List.length_cons]
        omega
    · have ih := fun q (hq : q ∈ partsC c r) => partsC_mem hq
      cases hp : partsC c r with
      | nil => exact absurd hp (partsC_ne c r)
      | cons q qs =>
        rw [hp] at h ih
        simp only [List.mem_cons] at h
        rcases h with rfl | h
        · have := ih q List.mem_cons_self
          simp only [List.length_cons]
          omega
        · have := ih p (List.mem_cons_of_mem _ h)
          simp only [List.length_cons]
          omega
theorem partsC_length (c : UInt8) (s : Bytes) : (partsC c s).length ≤ s.length + 1 := by
  induction s with
  | nil => simp [partsC]
  | cons x r ih =>
    unfold partsC
    split
    · simp only [List.length_cons]
      omega
    · cases hp : partsC c r with
      | nil => exact absurd hp (partsC_ne c r)
      | cons q qs =>
        rw [hp] at ih
        simp only [List.length_cons] at ih ⊢
        omega
structure RdrSz (R : Rdr) : Prop where
  byt : ∀ v, (R.byt v).length ≤ v.length
  pair : ∀ v, (R.pair v).1.length ≤ v.length
structure OpB (m k : Nat) (o : Opn) : Prop where
  key : o.key.length ≤ m
  tol : o.to.length ≤ m
  data : o.data.length ≤ m
  pairs : o.pairs.length ≤ k
  each : ∀ p ∈ o.pairs, p.1.length ≤ m
theorem cut_le (c : UInt8) (p : Bytes) : (cutA c p).length ≤ p.length ∧ (cutB c p).length ≤ p.length := by
  refine ⟨(List.takeWhile_sublist _).length_le, ?_⟩
  unfold cutB
  have := (List.dropWhile_sublist (l := p) (· != c)).length_le
  rw [List.length_drop]
  omega
theorem step_bd {R : Rdr} (hR : RdrSz R) {m k : Nat} {o : Opn} (h : OpB m k o) {p : Bytes} (hp : p.length ≤ m) : OpB m (k + 1) (stepG R o p) := by
  obtain ⟨h1, h2, h3, h4, h5⟩ := h
  have hc := (cut_le 61 p).2
  have hb := hR.byt (cutB 61 p)
  have hq := hR.pair (cutB 61 p)
  have h4' : o.pairs.length ≤ k + 1 := by omega
  refine takeG_cases R o _ _ (OpB m (k + 1)) ⟨h1, h2, h3, h4', h5⟩ ⟨h1, h2, h3, h4', h5⟩ ⟨h1, h2, h3, h4', h5⟩ ⟨h1, h2, h3, h4', h5⟩ ⟨h1, h2, h3, h4', h5⟩ ⟨h1, h2, h3, h4', h5⟩ ⟨by show (R.byt _).length ≤ m; omega, h2, h3, h4', h5⟩ ⟨h1, by show (R.byt _).length ≤ m; omega, h3, h4', h5⟩ ⟨h1, h2, by show (R.byt _).length ≤ m; omega, h4', h5⟩ ⟨h1, h2, h3, h4', h5⟩ ⟨h1, h2, h3, ?_, fun q hm => ?_⟩ ⟨h1, h2, h3, h4', h5⟩
  · show (o.pairs ++ [_]).length ≤ _
    rw [List.length_append]
    simp
    omega
  · have hm : q ∈ o.pairs ++ [R.pair (cutB 61 p)] := hm
    rw [List.mem_append, List.mem_singleton] at hm
    rcases hm with hm | rfl
    · exact h5 q hm
    · omega
theorem fold_bd {R : Rdr} (hR : RdrSz R) {m : Nat} (ps : List Bytes) (hp : ∀ p ∈ ps, p.length ≤ m) {k : Nat} {o : Opn} (h : OpB m k o) : OpB m (k + ps.length) (ps.foldl (stepG R) o) := by
  induction ps generalizing k o with
  | nil => exact h
  | cons p ps ih =>
    rw [List.foldl_cons, List.length_cons, ← Nat.add_assoc, Nat.add_right_comm]
    exact ih (fun q hq => hp q (List.mem_cons_of_mem _ hq)) (step_bd hR h (hp p List.mem_cons_self))
theorem OpB.zero (m : Nat) (k : Int) : OpB m 0 { kind := k } := ⟨Nat.zero_le _, Nat.zero_le _, Nat.zero_le _, Nat.le_refl _, fun p hp => by cases hp⟩
/-- what is read so far: of the first j parts -/
def oAt (R : Rdr) (ps : List Bytes) (j : Nat) : Opn := if j = 0 then {} else (ps.tail.take (j - 1)).foldl (stepG R) { kind := kindOf (ps.headD []) }
theorem oAt_bd {R : Rdr} (hR : RdrSz R) {m : Nat} {ps : List Bytes} (hp : ∀ p ∈ ps, p.length ≤ m) (j : Nat) : OpB m ps.length (oAt R ps j) := by
  unfold oAt
  split
  · have := OpB.zero m 0
    exact ⟨this.key, this.tol, this.data, by have := this.pairs; omega, this.each⟩
  · have h := fold_bd hR (ps.tail.take (j - 1)) (fun p hp' => hp p (List.mem_of_mem_tail (List.mem_of_mem_take hp'))) (OpB.zero m (kindOf (ps.headD [])))
    have hl : (ps.tail.take (j - 1)).length ≤ ps.length := by rw [List.length_take, List.length_tail]; omega
    exact ⟨h.key, h.tol, h.data, by have := h.pairs; omega, h.each⟩
theorem oAt_succ {R : Rdr} {ps : List Bytes} {j : Nat} {p : Bytes} (h : ps[j]? = some p) (hj : 1 ≤ j) : oAt R ps (j + 1) = stepG R (oAt R ps j) p := by
  unfold oAt
  rw [if_neg (by omega), if_neg (by omega)]
  have h2 : ps.tail[j - 1]? = some p := by
    rw [List.getElem?_tail, show j - 1 + 1 = j by omega]
    exact h
  rw [show j + 1 - 1 = j - 1 + 1 by omega, List.take_add_one, h2, List.foldl_append]
  rfl
theorem oAt_all (R : Rdr) (s : Bytes) : oAt R (partsC 32 s) (partsC 32 s).length = foldG R s := by
  unfold oAt foldG
  have : (partsC 32 s).length ≠ 0 := by
    have := partsC_ne 32 s
    intro e
    exact this (List.length_eq_zero_iff.1 e)
  rw [if_neg this, List.take_of_length_le (by rw [List.length_tail]; omega)]
theorem rdrW_sz : RdrSz rdrW := ⟨heard_length, fun v => by
  show (heardW (cutA 58 v)).length ≤ _
  have := heard_length (cutA 58 v)
  have := (cut_le 58 v).1
  omega⟩
theorem OpB.sm {m k : Nat} {o : Opn} (h : OpB m k o) (hm : m ≤ 100000) (hk : k ≤ 100000) : OpSm o := ⟨by have := h.key; omega, by have := h.tol; omega, by have := h.data; omega, by have := h.pairs; omega, fun p hp => by have := h.each p hp; omega⟩

/-! ### the index of a name -/
def mkS (l : Bytes) : ByteArray := ⟨l.toArray⟩
theorem mkS_inj {a b : Bytes} : mkS a = mkS b ↔ a = b := by
  constructor
  · intro h
    have := congrArg (fun z => z.data.toList) h
    simpa [mkS] using this
  · intro h; rw [h]
theorem idx_lib (p : Bytes) : ∀ (l : List Bytes) (i : Nat), Lib.idxFromS (l.map mkS) (mkS p) i = match idxN l p with | some k => ((i + k : Nat) : Int) | none => -1
  | [], i => rfl
  | x :: l, i => by
    rw [List.map_cons]
    unfold Lib.idxFromS idxN
    by_cases h : x = p
    · rw [if_pos (mkS_inj.2 h), if_pos h]
      simp
    · rw [if_neg (fun e => h (mkS_inj.1 e)), if_neg h, idx_lib p l (i + 1)]
      cases idxN l p with
      | none => rfl
      | some k =>
        show ((i + 1 + k : Nat) : Int) = ((i + (k + 1) : Nat) : Int)
        congr 1
        omega
theorem kind_lib (p : Bytes) : max (Lib.idxOfS (names24.map mkS) (mkS p)) 0 = kindOf p := by
  unfold Lib.idxOfS kindOf
  rw [idx_lib p names24 0]
  cases idxN names24 p with
  | none => rfl
  | some k => simp
theorem law_IndexS {p : Bytes} {H : Heap} (hL : Laid24 H) : Ret Tryd.prog 25 [.slice (some ⟨0, 0, none⟩) 23 23, strV p] H (fun v H' => H = H' ∧ v = .int .i64 (Lib.idxOfS (names24.map mkS) (mkS p))) := by
  refine ret_same fun w hw => ?_
  have h := Tryd.slices_Index_string 0 0 23 23 (names24.map mkS) (mkS p) w (by simp [names24]) (by omega) (fun j hj => by
    rw [List.length_map] at hj
    rw [cell_heap, hw, hL.names.cel, Nat.zero_add, List.getElem?_toArray, List.getElem?_map, List.getElem?_eq_getElem hj, List.getD, List.getElem?_map, List.getElem?_eq_getElem hj]
    rfl)
  rw [List.take_of_length_le (by simp [names24])] at h
  exact h
end Go.Proofs.YtbcflfkajkmkdaaDoor.X
