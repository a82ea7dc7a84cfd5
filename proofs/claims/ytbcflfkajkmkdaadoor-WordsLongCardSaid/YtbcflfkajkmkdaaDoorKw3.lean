/- Chapter 24, plain: how long a line is. -/
import Derived.Test.YtbcflfkajkmkdaaDoorKw2
namespace Go.Proofs.YtbcflfkajkmkdaaDoor.X
open Go Go.Proofs
set_option linter.unusedVariables false
set_option linter.unusedSimpArgs false
set_option maxRecDepth 10000

/-- digits of a number, none of 0 -/
def dgt (u : Nat) : Nat := if h : u = 0 then 0 else dgt (u / 10) + 1
termination_by u
decreasing_by omega
theorem dgt_zero : dgt 0 = 0 := by rw [dgt, dif_pos rfl]
theorem dgt_pos {u : Nat} (h : u ≠ 0) : dgt u = dgt (u / 10) + 1 := by rw [dgt, dif_neg h]
theorem nDigits_dgt (u : Nat) (h : u ≠ 0) : Lib.nDigits u = dgt u := by
  induction u using Nat.strongRecOn with
  | _ u ih =>
    rw [dgt_pos h]
    by_cases h10 : u < 10
    · rw [Lib.nDigits_small h10, show u / 10 = 0 by omega, dgt_zero]
    · rw [Lib.nDigits_big h10, ih (u / 10) (by omega) (by omega)]
def lenI (c : Nat) (n : Int) : Nat := if n = 0 then 0 else dgt n.natAbs + (if n < 0 then 1 else 0) + c
def lenB (c : Nat) (l : Bytes) : Nat := if l = [] then 0 else c + 2 * l.length
theorem len_pI (nm : Bytes) (n : Int) : (joinS (pI nm n)).length = lenI (nm.length + 2) n := by
  unfold pI lenI
  by_cases h : n = 0
  · simp [h, joinS]
  · rw [if_neg h, if_neg h]
    have hl : (Lib.itoa n).length = dgt n.natAbs + (if n < 0 then 1 else 0) := by
      unfold Lib.itoa
      by_cases hn : n < 0
      · rw [if_pos hn, if_pos hn, List.length_cons, Lib.decDigits_length, nDigits_dgt _ (by omega)]
      · rw [if_neg hn, if_neg hn, Lib.decDigits_length, nDigits_dgt _ (by omega), show n.toNat = n.natAbs by omega]
        rfl
    simp only [joinS, List.flatMap_cons, List.flatMap_nil, List.append_nil, List.length_cons, List.length_append, hl]
    omega
theorem len_pB (nm l : Bytes) : (joinS (pB nm l)).length = lenB (nm.length + 2) l := by
  have hh : ∀ l : Bytes, (hexB l).length = 2 * l.length := fun l => by
    induction l with
    | nil => rfl
    | cons x l ih => rw [hexB_cons, List.length_cons, List.length_cons, ih, List.length_cons]; omega
  unfold pB lenB
  by_cases h : l = []
  · simp [h, joinS]
  · rw [if_neg h, if_neg h]
    simp only [joinS, List.flatMap_cons, List.flatMap_nil, List.append_nil, List.length_cons, List.length_append, hh]
    omega
theorem len_dec (v : Int) (h : 0 ≤ v) : (dec v).length = dgt v.toNat + (if v = 0 then 1 else 0) := by
  unfold dec
  rw [Lib.decDigits_length]
  by_cases hv : v = 0
  · subst hv
    rw [Lib.nDigits_small (by decide), if_pos rfl]
    show 1 = dgt 0 + 1
    rw [dgt_zero]
  · rw [if_neg hv, nDigits_dgt _ (by omega)]
    rfl
theorem len_pU (v : Int) (h : 0 ≤ v) : (joinS (pU nVal v)).length = (if v = 0 then 0 else 5) + dgt v.toNat := by
  unfold pU
  by_cases hv : v = 0
  · subst hv
    rw [if_pos rfl, if_pos rfl]
    show 0 = 0 + dgt 0
    rw [dgt_zero]
  · rw [if_neg hv, if_neg hv]
    simp only [joinS, List.flatMap_cons, List.flatMap_nil, List.append_nil, List.length_cons, List.length_append, len_dec v h, if_neg hv, show nVal.length = 3 from rfl]
    omega
/-- what pairs add, without their values' digits; those -/
def lenP (l : List Pr) : Nat := (l.map fun p => 7 + 2 * p.1.length + (if p.2 = 0 then 1 else 0)).sum
def lenV (l : List Pr) : Nat := (l.map fun p => dgt p.2.toNat).sum
theorem len_pP (l : List Pr) (h : ∀ p ∈ l, 0 ≤ p.2) : (joinS (l.map pP)).length = lenP l + lenV l := by
  have hh : ∀ l : Bytes, (hexB l).length = 2 * l.length := fun l => by
    induction l with
    | nil => rfl
    | cons x l ih => rw [hexB_cons, List.length_cons, List.length_cons, ih, List.length_cons]; omega
  induction l with
  | nil => rfl
  | cons p l ih =>
    have h1 := ih (fun q hq => h q (List.mem_cons_of_mem _ hq))
    have h2 := len_dec p.2 (h p List.mem_cons_self)
    have e : joinS ((p :: l).map pP) = 32 :: (pP p ++ joinS (l.map pP)) := by simp [joinS]
    rw [e, List.length_cons, List.length_append, h1]
    simp only [pP, List.length_append, List.length_cons, hh, h2, lenP, lenV, List.map_cons, List.sum_cons, show nPair.length = 4 from rfl]
    omega
theorem say_length {o : Opn} (ho : OpOk o) (h0 : 1 ≤ o.kind) (h1 : o.kind < 23) : (sayO o).length = (nameOf o.kind).length + (lenI 6 o.slot + lenI 3 o.a + lenI 3 o.b + lenI 8 o.cursor + lenI 5 o.tag + lenI 3 o.n) + (lenB 5 o.key + lenB 4 o.to + lenB 6 o.data) + (if o.val = 0 then 0 else 5) + lenP o.pairs + (dgt o.val.toNat + lenV o.pairs) := by
  unfold sayO
  rw [if_neg (by omega)]
  unfold sayB partsOf numF bytF
  simp only [List.flatMap_cons, List.flatMap_nil, List.append_nil, List.length_append, joinS_append, len_pI, len_pB, len_pU _ ho.val.1, len_pP _ (fun p hp => (ho.pairs p hp).1)]
  simp only [show nSlot.length = 4 from rfl, show nA.length = 1 from rfl, show nB.length = 1 from rfl, show nCursor.length = 6 from rfl, show nTag.length = 3 from rfl, show nN.length = 1 from rfl, show nKey.length = 3 from rfl, show nTo.length = 2 from rfl, show nData.length = 4 from rfl, Nat.reduceAdd]
  omega
/-- a line begins with its word, the line of the kind alone -/
theorem say_word {k : Int} (h0 : 1 ≤ k) (h1 : k < 23) : sayO { kind := k } = nameOf k := by
  unfold sayO
  rw [if_neg (by simp only; omega)]
  show nameOf k ++ joinS [] = _
  simp [joinS]
theorem say_begin {o : Opn} (h0 : 1 ≤ o.kind) (h1 : o.kind < 23) : (sayO o).take (nameOf o.kind).length = nameOf o.kind ∧ (nameOf o.kind).length ≤ (sayO o).length := by
  unfold sayO
  rw [if_neg (by omega)]
  unfold sayB
  exact ⟨List.take_left, by rw [List.length_append]; omega⟩
end Go.Proofs.YtbcflfkajkmkdaaDoor.X
