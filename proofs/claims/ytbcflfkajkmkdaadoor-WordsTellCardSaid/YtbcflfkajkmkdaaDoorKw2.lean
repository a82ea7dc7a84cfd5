/- Chapter 24, plain: the program's reader and the document's; the library's words for them. -/
import Derived.Test.YtbcflfkajkmkdaaDoorKw
import Derived.Lib.AtoiAll
namespace Go.Proofs.YtbcflfkajkmkdaaDoor.X
open Go Go.Proofs
set_option linter.unusedVariables false
set_option linter.unusedSimpArgs false
set_option maxRecDepth 10000

/-! ### numbers -/
theorem pm_snoc {M : Nat} (c : UInt8) : ∀ (l : Bytes) (acc v : Nat), Lib.parseUintM M acc l = .ok v → Lib.parseUintM M acc (l ++ [c]) = Lib.parseUintM M v [c]
  | [], acc, v, h => by
    simp only [Lib.parseUintM] at h
    injection h with h
    subst h
    rfl
  | x :: r, acc, v, h => by
    rw [List.cons_append]
    unfold Lib.parseUintM at h ⊢
    split at h
    · rename_i h1
      split at h
      · cases h
      · rename_i h2
        split at h
        · cases h
        · rename_i h3
          rw [if_pos h1, if_neg h2, if_neg h3]
          have := pm_snoc c r _ v h
          rw [this]
          conv => lhs; unfold Lib.parseUintM
    · cases h
theorem pm_digit {M acc d : Nat} (hd : d < 10) (ha : acc < 1844674407370955162) (hM : acc * 10 + d ≤ M) : Lib.parseUintM M acc [UInt8.ofNat (48 + d)] = .ok (acc * 10 + d) := by
  have e : (UInt8.ofNat (48 + d)).toNat = 48 + d := by simp; omega
  unfold Lib.parseUintM
  rw [e, if_pos (by omega), if_neg (by omega), if_neg (by omega)]
  unfold Lib.parseUintM
  congr 1
  omega
theorem pm_dec {M : Nat} (hM : M < 18446744073709551616) (u : Nat) (hu : u ≤ M) : Lib.parseUintM M 0 (Lib.decDigits u) = .ok u := by
  induction u using Nat.strongRecOn with
  | _ u ih =>
    rw [Lib.decDigits]
    split
    · rename_i h
      have := pm_digit (M := M) (acc := 0) h (by omega) (by omega)
      simpa using this
    · rw [pm_snoc _ _ _ _ (ih (u / 10) (by omega) (by omega)), pm_digit (by omega) (by omega) (by omega)]
      congr 1
      omega
theorem pu_eq : ∀ (l : Bytes) (acc : Nat), Lib.parseUint10 acc l = Lib.parseUintM 18446744073709551615 acc l
  | [], acc => rfl
  | c :: r, acc => by
    unfold Lib.parseUint10 Lib.parseUintM
    by_cases h1 : 48 ≤ c.toNat ∧ c.toNat ≤ 57
    · rw [if_pos h1, if_pos h1]
      by_cases h2 : 1844674407370955162 ≤ acc
      · rw [if_pos h2, if_pos h2]
      · rw [if_neg h2, if_neg h2]
        by_cases h3 : 18446744073709551616 ≤ acc * 10 + (c.toNat - 48)
        · rw [if_pos h3, if_pos (by omega)]
        · rw [if_neg h3, if_neg (by omega)]
          exact pu_eq r _
    · rw [if_neg h1, if_neg h1]
theorem mag_dec {u : Nat} (hu : u < 18446744073709551616) : Lib.parseMag (Lib.decDigits u) = .ok u := by
  unfold Lib.parseMag
  rw [if_neg (decDigits_ne u), pu_eq, pm_dec (by omega) u (by omega)]
def endI : Lib.NumEnd Int → Int
  | .ok v => v
  | _ => 0
def endN : Lib.NumEnd Nat → Int
  | .ok v => (v : Int)
  | _ => 0
/-- the program's readers -/
def numW (s : Bytes) : Int := endI (Lib.atoiAll s)
def greatW (s : Bytes) : Int := endN (Lib.parseUintB 64 s)
theorem atoi_itoa {n : Int} (h : I64 n) : Lib.atoiAll (Lib.itoa n) = .ok n := by
  obtain ⟨h0, h1⟩ := h
  unfold Lib.itoa
  split
  · rename_i hn
    unfold Lib.atoiAll
    simp only
    have e : (45 : UInt8).toNat = 45 := rfl
    rw [e, if_pos (.inr rfl), mag_dec (by omega)]
    simp only
    rw [if_neg (by simp), if_neg (by omega), if_pos trivial]
    congr 1
    omega
  · rename_i hn
    have hd := decDigits_mem n.toNat
    have hm := mag_dec (u := n.toNat) (by omega)
    cases hl : Lib.decDigits n.toNat with
    | nil => exact absurd hl (decDigits_ne _)
    | cons c r =>
      rw [hl] at hd hm
      have hc := hd c List.mem_cons_self
      unfold Lib.atoiAll
      simp only
      rw [if_neg (by omega), hm]
      simp only
      rw [if_neg (by omega), if_neg (by omega), if_neg (by omega)]
      congr 1
      omega
theorem atoi_bd (s : Bytes) : I64 (numW s) := by
  unfold numW
  rcases h : Lib.atoiAll s with v | _ | _
  rotate_left
  · exact ⟨by decide, by decide⟩
  · exact ⟨by decide, by decide⟩
  ·
    show I64 v
    unfold Lib.atoiAll at h
    split at h
    · cases h
    · simp only at h
      split at h
      · cases h
      · cases h
      · split at h
        · cases h
        · split at h
          · cases h
          · injection h with h
            subst h
            split <;> constructor <;> omega
theorem pm_le {M : Nat} : ∀ (l : Bytes) (acc u : Nat), acc ≤ M → Lib.parseUintM M acc l = .ok u → u ≤ M
  | [], acc, u, ha, h => by
    simp only [Lib.parseUintM] at h
    injection h with h
    omega
  | c :: r, acc, u, ha, h => by
    unfold Lib.parseUintM at h
    split at h
    · split at h
      · cases h
      · split at h
        · cases h
        · exact pm_le r _ u (by omega) h
    · cases h
theorem great_bd (s : Bytes) : U64 (greatW s) := by
  unfold greatW
  rcases h : Lib.parseUintB 64 s with v | _ | _
  rotate_left
  · exact ⟨by decide, by decide⟩
  · exact ⟨by decide, by decide⟩
  ·
    show U64 (v : Int)
    unfold Lib.parseUintB at h
    split at h
    · cases h
    · have := pm_le s 0 v (by omega) h
      constructor <;> omega
theorem great_dec {v : Int} (h : U64 v) : greatW (dec v) = v := by
  obtain ⟨h0, h1⟩ := h
  unfold greatW dec Lib.parseUintB
  rw [if_neg (decDigits_ne _), pm_dec (by decide) _ (by omega)]
  show ((v.toNat : Nat) : Int) = v
  omega

/-! ### bytes -/
def hexAt (c : UInt8) : Nat := (max (Lib.indexByte hexTab c) 0).toNat
def heardW : Bytes → Bytes
  | a :: b :: r => UInt8.ofNat (hexAt a * 16 ||| hexAt b) :: heardW r
  | _ => []
theorem hexAt_tab : ∀ j : Fin 16, hexAt (hexTab.getD j.val 0) = j.val := by decide +kernel
theorem byte_or : ∀ x : Fin 256, UInt8.ofNat (x.val / 16 * 16 ||| x.val % 16) = UInt8.ofNat x.val := by decide +kernel
theorem hexB_cons (x : UInt8) (l : Bytes) : hexB (x :: l) = hexTab.getD (x.toNat / 16) 0 :: hexTab.getD (x.toNat % 16) 0 :: hexB l := rfl
theorem heard_hex (l : Bytes) : heardW (hexB l) = l := by
  induction l with
  | nil => rfl
  | cons x l ih =>
    have hx : x.toNat < 256 := x.toNat_lt
    rw [hexB_cons]
    unfold heardW
    rw [ih, hexAt_tab ⟨x.toNat / 16, by omega⟩, hexAt_tab ⟨x.toNat % 16, by omega⟩, byte_or ⟨x.toNat, hx⟩]
    simp
def rdrW : Rdr := ⟨numW, heardW, greatW, fun v => (heardW (cutA 58 v), greatW (cutB 58 v))⟩
theorem rdrW_ok : RdrOk rdrW where
  num := fun n h => by show endI _ = n; rw [atoi_itoa h]; rfl
  byt := heard_hex
  uns := fun v h => great_dec h
  pair := fun k v h => by
    have hk : (58 : UInt8) ∉ hexB k := hexB_no (by decide) k
    show (heardW (cutA 58 _), greatW (cutB 58 _)) = (k, v)
    rw [cutA_at hk, cutB_at hk, heard_hex, great_dec h]
  numB := atoi_bd
  unsB := great_bd
  pairB := fun s => great_bd _

/-! ### the document's -/
def digR (c : UInt8) : Nat := if 48 ≤ c.toNat ∧ c.toNat ≤ 57 then c.toNat - 48 else if 97 ≤ c.toNat ∧ c.toNat ≤ 102 then c.toNat - 87 else 0
def rdStep (s : Nat × Bool) (c : UInt8) : Nat × Bool := if c.toNat = 45 then (s.1, true) else ((s.1 * 10 + digR c) % 18446744073709551616, s.2)
def rdU (s : Bytes) : Int := let r := s.foldl rdStep (0, false); if r.2 then (-(r.1 : Int)) % 18446744073709551616 else (r.1 : Int)
def toI (u : Int) : Int := if u < 9223372036854775808 then u else u - 18446744073709551616
theorem rdStep_lt (l : Bytes) (s : Nat × Bool) (h : s.1 < 18446744073709551616) : (l.foldl rdStep s).1 < 18446744073709551616 := by
  induction l generalizing s with
  | nil => exact h
  | cons c l ih =>
    rw [List.foldl_cons]
    apply ih
    unfold rdStep
    split
    · exact h
    · exact Nat.mod_lt _ (by omega)
theorem rdU_bd (s : Bytes) : U64 (rdU s) := by
  have h := rdStep_lt s (0, false) (by simp)
  unfold rdU
  simp only
  split <;> constructor <;> omega
theorem toI_bd {u : Int} (h : U64 u) : I64 (toI u) := by
  obtain ⟨h0, h1⟩ := h
  unfold toI
  split <;> constructor <;> omega
theorem digR_at {d : Nat} (h : d < 10) : digR (UInt8.ofNat (48 + d)) = d ∧ (UInt8.ofNat (48 + d)).toNat ≠ 45 := by
  have e : (UInt8.ofNat (48 + d)).toNat = 48 + d := by simp; omega
  unfold digR
  rw [e, if_pos (by omega)]
  omega
theorem rd_dec (u : Nat) (h : u < 18446744073709551616) (b : Bool) : (Lib.decDigits u).foldl rdStep (0, b) = (u, b) := by
  induction u using Nat.strongRecOn with
  | _ u ih =>
    rw [Lib.decDigits]
    split
    · rename_i hu
      have := digR_at hu
      rw [List.foldl_cons, List.foldl_nil]
      unfold rdStep
      rw [if_neg this.2, this.1]
      simp
      omega
    · have := digR_at (d := u % 10) (by omega)
      rw [List.foldl_append, ih (u / 10) (by omega) (by omega), List.foldl_cons, List.foldl_nil]
      unfold rdStep
      rw [if_neg this.2, this.1]
      simp
      omega
theorem rdU_dec {v : Int} (h : U64 v) : rdU (dec v) = v := by
  obtain ⟨h0, h1⟩ := h
  unfold rdU dec
  rw [rd_dec _ (by omega)]
  simp
  omega
theorem rdI_itoa {n : Int} (h : I64 n) : toI (rdU (Lib.itoa n)) = n := by
  obtain ⟨h0, h1⟩ := h
  unfold Lib.itoa
  split
  · have e : rdU (45 :: Lib.decDigits n.natAbs) = (-(n.natAbs : Int)) % 18446744073709551616 := by
      unfold rdU
      rw [List.foldl_cons]
      have : rdStep (0, false) 45 = (0, true) := rfl
      rw [this, rd_dec _ (by omega)]
      rfl
    rw [e]
    unfold toI
    split <;> omega
  · have := rdU_dec (v := n) ⟨by omega, by omega⟩
    unfold dec at this
    rw [this]
    unfold toI
    split <;> omega
def bytR : Bytes → Bytes
  | a :: b :: r => UInt8.ofNat ((digR a * 16) % 256 ||| digR b) :: bytR r
  | _ => []
theorem digR_tab : ∀ j : Fin 16, digR (hexTab.getD j.val 0) = j.val := by decide +kernel
theorem byte_or2 : ∀ x : Fin 256, UInt8.ofNat ((x.val / 16 * 16) % 256 ||| x.val % 16) = UInt8.ofNat x.val := by decide +kernel
theorem bytR_hex (l : Bytes) : bytR (hexB l) = l := by
  induction l with
  | nil => rfl
  | cons x l ih =>
    have hx : x.toNat < 256 := x.toNat_lt
    rw [hexB_cons]
    unfold bytR
    rw [ih, digR_tab ⟨x.toNat / 16, by omega⟩, digR_tab ⟨x.toNat % 16, by omega⟩, byte_or2 ⟨x.toNat, hx⟩]
    simp
def rdrR : Rdr := ⟨fun v => toI (rdU v), bytR, rdU, fun v => (bytR ((partsC 58 v).headD []), rdU ((partsC 58 v).getLastD []))⟩
theorem rdrR_ok : RdrOk rdrR where
  num := fun n h => rdI_itoa h
  byt := bytR_hex
  uns := fun v h => rdU_dec h
  pair := fun k v h => by
    have hk : (58 : UInt8) ∉ hexB k := hexB_no (by decide) k
    show (bytR ((partsC 58 _).headD []), rdU ((partsC 58 _).getLastD [])) = (k, v)
    rw [partsC_cons hk, partsC_free (dec_no (by decide) v)]
    show (bytR (hexB k), rdU (dec v)) = _
    rw [bytR_hex, rdU_dec h]
  numB := fun s => toI_bd (rdU_bd s)
  unsB := rdU_bd
  pairB := fun s => rdU_bd _
theorem read_WR (s : Bytes) : readG rdrW s = readG rdrR s := read_alike rdrW_ok rdrR_ok s

/-! ### the library's split and cut, of one byte -/
theorem index_cons_ne {c x : UInt8} {l : Bytes} (h : x ≠ c) : Lib.index (x :: l) [c] = if Lib.index l [c] == -1 then -1 else Lib.index l [c] + 1 := by
  conv => lhs; unfold Lib.index
  rw [if_neg]
  simp [List.isPrefixOf, Ne.symm h]
theorem index_cons_eq (c : UInt8) (l : Bytes) : Lib.index (c :: l) [c] = 0 := by
  conv => lhs; unfold Lib.index
  rw [if_pos]
  simp [List.isPrefixOf]
theorem index_free {c : UInt8} {l : Bytes} (h : c ∉ l) : Lib.index l [c] = -1 := by
  induction l with
  | nil => rfl
  | cons x l ih =>
    rw [index_cons_ne (fun e => h (by simp [e])), ih (fun hm => h (List.mem_cons_of_mem _ hm))]
    rfl
theorem index_at {c : UInt8} {a r : Bytes} (h : c ∉ a) : Lib.index (a ++ c :: r) [c] = (a.length : Int) := by
  induction a with
  | nil => exact index_cons_eq c r
  | cons x a ih =>
    rw [List.cons_append, index_cons_ne (fun e => h (by simp [e])), ih (fun hm => h (List.mem_cons_of_mem _ hm))]
    rw [if_neg (by simp)]
    simp
theorem split_form (c : UInt8) (l : Bytes) : c ∉ l ∨ ∃ a r, l = a ++ c :: r ∧ c ∉ a := by
  induction l with
  | nil => exact .inl (by simp)
  | cons x l ih =>
    by_cases e : x = c
    · exact .inr ⟨[], l, by simp [e], by simp⟩
    · rcases ih with h | ⟨a, r, rfl, h⟩
      · exact .inl (by simp [h, Ne.symm e])
      · exact .inr ⟨x :: a, r, by simp, by simp [h, Ne.symm e]⟩
theorem cut_free {c : UInt8} {l : Bytes} (h : c ∉ l) : cutA c l = l ∧ cutB c l = [] := by
  induction l with
  | nil => exact ⟨rfl, rfl⟩
  | cons x l ih =>
    have h1 : x ≠ c := fun e => h (by simp [e])
    have := ih (fun hm => h (List.mem_cons_of_mem _ hm))
    unfold cutA cutB at this ⊢
    simp [h1]
    exact ⟨by simpa using this.1, by simpa using this.2⟩
theorem lib_cut (c : UInt8) (l : Bytes) : (Lib.cut l [c]).1 = cutA c l ∧ (Lib.cut l [c]).2.1 = cutB c l := by
  unfold Lib.cut
  rcases split_form c l with h | ⟨a, r, rfl, h⟩
  · rw [index_free h, if_neg (by omega)]
    have := cut_free h
    exact ⟨this.1.symm, this.2.symm⟩
  · rw [index_at h, if_pos (by omega), cutA_at h, cutB_at h]
    constructor
    · simp
    · show (a ++ c :: r).drop ((a.length : Int).toNat + 1) = r
      rw [show ((a.length : Int).toNat + 1) = a.length + 1 from rfl, ← List.drop_drop, List.drop_left]
      rfl
theorem lib_split (c : UInt8) : ∀ (k : Nat) (l : Bytes), l.count c = k → Lib.splitK [c] 0 k l = partsC c l
  | 0, l, h => by
    rw [partsC_free (List.count_eq_zero.1 h)]
    rfl
  | k + 1, l, h => by
    rcases split_form c l with h1 | ⟨a, r, rfl, h1⟩
    · rw [List.count_eq_zero.2 h1] at h; cases h
    · unfold Lib.splitK
      rw [index_at h1, if_neg (by simp), partsC_cons h1]
      have e1 : (a ++ c :: r).take ((a.length : Int).toNat + 0) = a := by simp
      have e2 : (a ++ c :: r).drop ((a.length : Int).toNat + [c].length) = r := by
        rw [show ((a.length : Int).toNat + [c].length) = a.length + 1 from rfl, ← List.drop_drop, List.drop_left]
        rfl
      rw [e1, e2, lib_split c k r (by rw [List.count_append, List.count_cons, List.count_eq_zero.2 h1] at h; simp at h; exact h)]
/-- strings.Split's pieces -/
theorem split_pieces (c : UInt8) (s : ByteArray) : (Lib.splitB ⟨#[c]⟩ 0 (Lib.countB s ⟨#[c]⟩) s).map (·.data.toList) = partsC c s.data.toList := by
  rw [Lib.splitB_data]
  refine lib_split c _ _ ?_
  show s.data.toList.count c = Lib.count s.data.toList [c]
  rw [Lib.count_one]
end Go.Proofs.YtbcflfkajkmkdaaDoor.X
