/- Keys in order, more in plain words: bits, what is behind a key, beginnings. No program in it. -/
import Derived.Sort.Walk0
import Derived.Test.YtbcflfkajkmkdaaDoorKp
namespace Go.Proofs.YtbcflfkajkmkdaaDoor.X
open Go
set_option linter.unusedVariables false

theorem cmp_nil_l (b : Bytes) : cmpB [] b = if b = [] then 0 else -1 := by cases b <;> simp [cmpB, Lib.compareBytes]
theorem cmp_nil_r (a : Bytes) : cmpB a [] = if a = [] then 0 else 1 := by cases a <;> simp [cmpB, Lib.compareBytes]
theorem cmp_cons (x y : UInt8) (a b : Bytes) : cmpB (x :: a) (y :: b) = if x < y then -1 else if y < x then 1 else cmpB a b := by simp [cmpB, Lib.compareBytes]
theorem u8_tri (x y : UInt8) : x < y ∨ x = y ∨ y < x := by
  rcases Nat.lt_trichotomy x.toNat y.toNat with h | h | h
  · exact .inl (UInt8.lt_iff_toNat_lt.2 h)
  · exact .inr (.inl (UInt8.toNat_inj.1 h))
  · exact .inr (.inr (UInt8.lt_iff_toNat_lt.2 h))
theorem u8_asym {x y : UInt8} (h : x < y) : ¬ y < x := by
  rw [UInt8.lt_iff_toNat_lt] at h ⊢
  omega
theorem u8_irr (x : UInt8) : ¬ x < x := by
  rw [UInt8.lt_iff_toNat_lt]
  omega
theorem u8_ne {x y : UInt8} (h : x < y) : x ≠ y := fun e => u8_irr x (by rw [← e] at h; exact h)
theorem cmp_eq3 (a b : Bytes) : cmpB a b = -1 ∨ cmpB a b = 0 ∨ cmpB a b = 1 := by
  induction a generalizing b with
  | nil => rw [cmp_nil_l]; split <;> simp
  | cons x a ih =>
    cases b with
    | nil => simp [cmp_nil_r]
    | cons y b =>
      rw [cmp_cons]
      split
      · simp
      · split
        · simp
        · exact ih b
theorem cmp_self (a : Bytes) : cmpB a a = 0 := by
  induction a with
  | nil => rfl
  | cons x a ih => rw [cmp_cons, if_neg (u8_irr x), if_neg (u8_irr x), ih]
theorem cmp_anti (a b : Bytes) : cmpB b a = - cmpB a b := by
  induction a generalizing b with
  | nil => rw [cmp_nil_l, cmp_nil_r]; split <;> simp
  | cons x a ih =>
    cases b with
    | nil => rw [cmp_nil_l, cmp_nil_r]; simp
    | cons y b =>
      rw [cmp_cons, cmp_cons]
      rcases u8_tri x y with h | rfl | h
      · rw [if_pos h, if_neg (u8_asym h), if_pos h]; rfl
      · rw [if_neg (u8_irr x), if_neg (u8_irr x), if_neg (u8_irr x), if_neg (u8_irr x), ih]
      · rw [if_pos h, if_neg (u8_asym h), if_pos h]
theorem cmp_zero {a b : Bytes} : cmpB a b = 0 ↔ a = b := by
  constructor
  · intro h
    induction a generalizing b with
    | nil =>
      rw [cmp_nil_l] at h
      split at h
      · rename_i e; exact e.symm
      · simp at h
    | cons x a ih =>
      cases b with
      | nil => simp [cmp_nil_r] at h
      | cons y b =>
        rw [cmp_cons] at h
        rcases u8_tri x y with h' | rfl | h'
        · rw [if_pos h'] at h; simp at h
        · rw [if_neg (u8_irr x), if_neg (u8_irr x)] at h; rw [ih h]
        · rw [if_neg (u8_asym h'), if_pos h'] at h; simp at h
  · rintro rfl; exact cmp_self a
theorem cmp_trans {a b c : Bytes} (h : cmpB a b ≤ 0) (h' : cmpB b c ≤ 0) : cmpB a c ≤ 0 := by
  induction a generalizing b c with
  | nil => rw [cmp_nil_l]; split <;> simp
  | cons x a ih =>
    cases b with
    | nil => simp [cmp_nil_r] at h
    | cons y b =>
      cases c with
      | nil => simp [cmp_nil_r] at h'
      | cons z c =>
        rw [cmp_cons] at h h' ⊢
        rcases u8_tri x y with h1 | rfl | h1
        · rcases u8_tri y z with h2 | rfl | h2
          · have : x < z := by rw [UInt8.lt_iff_toNat_lt] at *; omega
            rw [if_pos this]; decide
          · rw [if_pos h1]; decide
          · rw [if_neg (u8_asym h2), if_pos h2] at h'; simp at h'
        · rw [if_neg (u8_irr x), if_neg (u8_irr x)] at h
          rcases u8_tri x z with h2 | rfl | h2
          · rw [if_pos h2]; decide
          · rw [if_neg (u8_irr x), if_neg (u8_irr x)] at h' ⊢; exact ih h h'
          · rw [if_neg (u8_asym h2), if_pos h2] at h'; simp at h'
        · rw [if_neg (u8_asym h1), if_pos h1] at h; simp at h
theorem cmp_way (w a b : Bytes) : cmpB (w ++ a) (w ++ b) = cmpB a b := by
  induction w with
  | nil => rfl
  | cons x w ih => rw [List.cons_append, List.cons_append, cmp_cons, if_neg (u8_irr x), if_neg (u8_irr x), ih]
theorem cmp_pre (a m : Bytes) : cmpB a (a ++ m) = if m = [] then 0 else -1 := by
  have := cmp_way a [] m
  rw [List.append_nil] at this
  rw [this, cmp_nil_l]

theorem less_cmp (a b : Bytes) : Op.bytesLess a b = decide (cmpB a b = -1) := by
  induction a generalizing b with
  | nil => cases b <;> simp [Op.bytesLess, cmp_nil_l]
  | cons x a ih =>
    cases b with
    | nil => simp [Op.bytesLess, cmp_nil_r]
    | cons y b =>
      rw [Op.bytesLess, cmp_cons, ih]
      rcases u8_tri x y with h | rfl | h
      · simp [h]
      · simp [u8_irr x]
      · have := u8_asym h
        have h3 := (u8_ne h).symm
        simp [h, this, h3]

/-- how two lists compare, by what they share -/
theorem cmp_common (a b : Bytes) : cmpB a b = match a[common a b]?, b[common a b]? with
    | none, none => 0
    | none, some _ => -1
    | some _, none => 1
    | some x, some y => if x < y then -1 else 1 := by
  induction a generalizing b with
  | nil => cases b <;> simp [cmp_nil_l, common]
  | cons x a ih =>
    cases b with
    | nil => simp [cmp_nil_r, common]
    | cons y b =>
      rw [cmp_cons]
      unfold common
      rcases u8_tri x y with h | rfl | h
      · rw [if_pos h, if_neg (u8_ne h)]; simp [h]
      · rw [if_neg (u8_irr x), if_neg (u8_irr x), if_pos rfl, ih]; simp
      · have := u8_asym h
        rw [if_neg this, if_pos h, if_neg (u8_ne h).symm]; simp [this]
theorem common_way (w a b : Bytes) : common (w ++ a) (w ++ b) = w.length + common a b := by
  induction w with
  | nil => simp
  | cons x w ih => simp only [List.cons_append, common, if_true, ih, List.length_cons]; omega
theorem common_self (a : Bytes) : common a a = a.length := by
  have := common_way a [] []
  simpa [common] using this
theorem common_eq {a b : Bytes} (h1 : common a b = a.length) (h2 : common a b = b.length) : a = b := by
  apply List.ext_getElem?
  intro i
  by_cases h : i < common a b
  · exact common_same h
  · rw [List.getElem?_eq_none (by omega), List.getElem?_eq_none (by omega)]
theorem begins_common (k p : Bytes) : begins k p = decide (common k p = p.length) := by
  have h := common_le k p
  by_cases hc : common k p = p.length
  · have : k.take p.length = p := by
      apply List.ext_getElem?
      intro i
      rw [List.getElem?_take]
      split
      · exact common_same (by omega)
      · rw [List.getElem?_eq_none (by omega)]
    simp only [begins, this, hc]
    simp
    omega
  · have : ¬ (p.length ≤ k.length ∧ k.take p.length = p) := by
      rintro ⟨h1, h2⟩
      apply hc
      have : k = p ++ k.drop p.length := by
        conv => lhs; rw [← List.take_append_drop p.length k, h2]
      rw [this]
      have := common_way p (k.drop p.length) []
      rw [List.append_nil] at this
      rw [this]
      cases k.drop p.length <;> simp [common]
    simp only [begins, hc]
    simpa using this
theorem begins_append (p m : Bytes) : begins (p ++ m) p = true := by simp [begins]
theorem begins_iff {k p : Bytes} : begins k p = true ↔ ∃ m, k = p ++ m := by
  constructor
  · intro h
    simp only [begins, Bool.and_eq_true, decide_eq_true_eq, beq_iff_eq] at h
    exact ⟨k.drop p.length, by conv => lhs; rw [← List.take_append_drop p.length k, h.2]⟩
  · rintro ⟨m, rfl⟩
    exact begins_append p m
theorem begins_cons (x y : UInt8) (k p : Bytes) : begins (y :: k) (x :: p) = (y == x && begins k p) := by
  simp only [begins, List.length_cons, List.take_succ_cons, Nat.add_le_add_iff_right]
  exact Bool.and_left_comm _ _ _
theorem begins_nil (k : Bytes) : begins k [] = true := by simp [begins]

/-! bits -/
theorem bitK01 (k : Bytes) (i : Int) : 0 ≤ bitK k i ∧ bitK k i ≤ 1 := by
  unfold bitK
  repeat' split
  all_goals omega
theorem xor_zero_eq {a b : Nat} (h : a ^^^ b = 0) : a = b := by
  have : (a ^^^ b) ^^^ b = b := by rw [h, Nat.zero_xor]
  rw [Nat.xor_assoc, Nat.xor_self, Nat.xor_zero] at this
  exact this
theorem zeros_at {x y : UInt8} (h : x ≠ y) : zeros8 (x ^^^ y) ≤ 7 ∧ (x ^^^ y).toNat.log2 = 7 - zeros8 (x ^^^ y) := by
  have hne : (x ^^^ y).toNat ≠ 0 := by
    rw [UInt8.toNat_xor]
    intro e
    exact h (UInt8.toNat_inj.1 (xor_zero_eq e))
  have hlt := (x ^^^ y).toNat_lt
  have : (x ^^^ y).toNat.log2 < 8 := (Nat.log2_lt hne).2 hlt
  unfold zeros8 zeros8n
  rw [if_neg hne]
  omega
theorem bit_of (n j : Nat) : n / 2 ^ j % 2 = (n.testBit j).toNat := by
  rw [Nat.testBit_eq_decide_div_mod_eq]
  have : n / 2 ^ j % 2 = 0 ∨ n / 2 ^ j % 2 = 1 := by omega
  rcases this with h | h <;> simp [h]
theorem bits_same {x y : UInt8} (h : x ≠ y) {j : Nat} (hj : 7 - zeros8 (x ^^^ y) < j) : x.toNat / 2 ^ j % 2 = y.toNat / 2 ^ j % 2 := by
  obtain ⟨h1, h2⟩ := zeros_at h
  rw [bit_of, bit_of]
  have : (x ^^^ y).toNat.testBit j = false := by
    apply Nat.testBit_lt_two_pow
    exact Nat.lt_of_lt_of_le (Nat.lt_log2_self) (Nat.pow_le_pow_right (by omega) (by omega))
  rw [UInt8.toNat_xor, Nat.testBit_xor] at this
  have : x.toNat.testBit j = y.toNat.testBit j := by simpa using this
  rw [this]
theorem lt_of_bits {x y t : Nat} (hx : x.testBit t = false) (hy : y.testBit t = true) (h : ∀ j, t < j → x.testBit j = y.testBit j) : x < y := by
  have e : x / 2 ^ (t + 1) = y / 2 ^ (t + 1) := by
    apply Nat.eq_of_testBit_eq
    intro j
    rw [Nat.testBit_div_two_pow, Nat.testBit_div_two_pow]
    exact h _ (by omega)
  have hx1 := bit_of x t
  have hy1 := bit_of y t
  rw [hx] at hx1
  rw [hy] at hy1
  rw [Nat.pow_succ, ← Nat.div_div_eq_div_mul, ← Nat.div_div_eq_div_mul] at e
  have hx1 : x / 2 ^ t % 2 = 0 := hx1
  have hy1 : y / 2 ^ t % 2 = 1 := hy1
  rcases Nat.lt_or_ge x y with h1 | h1
  · exact h1
  · have := Nat.div_le_div_right (c := 2 ^ t) h1
    omega
theorem bits_part {x y : UInt8} (h : x ≠ y) : x.toNat / 2 ^ (7 - zeros8 (x ^^^ y)) % 2 = (if x < y then 0 else 1) ∧ y.toNat / 2 ^ (7 - zeros8 (x ^^^ y)) % 2 = (if x < y then 1 else 0) := by
  obtain ⟨h1, h2⟩ := zeros_at h
  have hne : (x ^^^ y).toNat ≠ 0 := by
    rw [UInt8.toNat_xor]
    intro e
    exact h (UInt8.toNat_inj.1 (xor_zero_eq e))
  have htop : (x ^^^ y).toNat.testBit (7 - zeros8 (x ^^^ y)) = true := by
    rw [← h2]
    exact Nat.testBit_log2 hne
  have hab : ∀ j, 7 - zeros8 (x ^^^ y) < j → x.toNat.testBit j = y.toNat.testBit j := by
    intro j hj
    have := bits_same h hj
    rw [bit_of, bit_of] at this
    cases h3 : x.toNat.testBit j <;> cases h4 : y.toNat.testBit j <;> simp_all
  rw [bit_of, bit_of]
  generalize 7 - zeros8 (x ^^^ y) = t at htop hab
  rw [UInt8.toNat_xor, Nat.testBit_xor] at htop
  cases h3 : x.toNat.testBit t <;> cases h4 : y.toNat.testBit t
  · rw [h3, h4] at htop; simp at htop
  · have : x.toNat < y.toNat := lt_of_bits h3 h4 hab
    rw [if_pos (UInt8.lt_iff_toNat_lt.2 this), if_pos (UInt8.lt_iff_toNat_lt.2 this)]
    exact ⟨rfl, rfl⟩
  · have : y.toNat < x.toNat := lt_of_bits h4 h3 (fun j hj => (hab j hj).symm)
    have hn : ¬ x < y := by rw [UInt8.lt_iff_toNat_lt]; omega
    rw [if_neg hn, if_neg hn]
    exact ⟨rfl, rfl⟩
  · rw [h3, h4] at htop; simp at htop

theorem differ_self (a : Bytes) : differ a a = -1 := by
  unfold differ
  simp [common_self]
theorem differ_comm (a b : Bytes) : differ a b = differ b a := by
  unfold differ
  rw [common_comm b a]
  by_cases h1 : common a b = a.length <;> by_cases h2 : common a b = b.length <;> simp [h1, h2]
  rw [UInt8.xor_comm]
/-- where two keys differ first, and how -/
theorem differ_spec {a b : Bytes} (h : a ≠ b) : ∃ d : Nat, differ a b = (d : Int) ∧ 9 * common a b ≤ d ∧ d ≤ 9 * common a b + 8 ∧ d ≤ 9 * max a.length b.length ∧ (∀ i : Nat, i < d → bitK a i = bitK b i) ∧ bitK a d - bitK b d = cmpB a b ∧ cmpB a b ≠ 0 := by
  have hle := common_le a b
  have hz : cmpB a b ≠ 0 := fun e => h (cmp_zero.1 e)
  have hsame : ∀ i : Nat, i < 9 * common a b → bitK a i = bitK b i := by
    intro i hi
    unfold bitK
    rw [if_neg (by omega), if_neg (by omega)]
    simp only [Int.toNat_natCast]
    rw [common_same (a := a) (b := b) (j := i / 9) (by omega)]
  have hcc := cmp_common a b
  unfold differ
  by_cases h1 : common a b = a.length
  · by_cases h2 : common a b = b.length
    · exact absurd (common_eq h1 h2) h
    · rw [if_neg (fun e => h2 e.2), if_pos (.inl h1)]
      have ea : a[common a b]? = none := List.getElem?_eq_none (by omega)
      obtain ⟨y, hy⟩ : ∃ y, b[common a b]? = some y := ⟨_, List.getElem?_eq_getElem (by omega)⟩
      rw [ea, hy] at hcc
      simp only at hcc
      refine ⟨9 * common a b, by simp, Nat.le_refl _, by omega, by omega, hsame, ?_, hz⟩
      have e9 : 9 * common a b / 9 = common a b := by omega
      have e0 : 9 * common a b % 9 = 0 := by omega
      rw [hcc]
      unfold bitK
      rw [if_neg (by omega), if_neg (by omega)]
      simp only [Int.toNat_natCast, e9, e0, ea, hy]
      rfl
  · by_cases h2 : common a b = b.length
    · rw [if_neg (fun e => h1 e.1), if_pos (.inr h2)]
      have eb : b[common a b]? = none := List.getElem?_eq_none (by omega)
      obtain ⟨y, hy⟩ : ∃ y, a[common a b]? = some y := ⟨_, List.getElem?_eq_getElem (by omega)⟩
      rw [eb, hy] at hcc
      simp only at hcc
      refine ⟨9 * common a b, by simp, Nat.le_refl _, by omega, by omega, hsame, ?_, hz⟩
      have e9 : 9 * common a b / 9 = common a b := by omega
      have e0 : 9 * common a b % 9 = 0 := by omega
      rw [hcc]
      unfold bitK
      rw [if_neg (by omega), if_neg (by omega)]
      simp only [Int.toNat_natCast, e9, e0, eb, hy]
      rfl
    · rw [if_neg (fun e => h1 e.1), if_neg (fun e => e.elim h1 h2)]
      obtain ⟨x, hx⟩ : ∃ x, a[common a b]? = some x := ⟨_, List.getElem?_eq_getElem (by omega)⟩
      obtain ⟨y, hy⟩ : ∃ y, b[common a b]? = some y := ⟨_, List.getElem?_eq_getElem (by omega)⟩
      have hne := common_parts hx hy
      have hz7 := (zeros_at hne).1
      rw [hx, hy] at hcc
      simp only at hcc
      have ga : a.getD (common a b) 0 = x := by simp [hx]
      have gb : b.getD (common a b) 0 = y := by simp [hy]
      simp only [ga, gb]
      have hp := bits_part hne
      have hs := fun j => bits_same hne (j := j)
      generalize zeros8 (x ^^^ y) = z at *
      refine ⟨9 * common a b + 1 + z, by omega, by omega, by omega, by omega, ?_, ?_, hz⟩
      · intro i hi
        by_cases hi9 : i < 9 * common a b
        · exact hsame i hi9
        · have e9 : i / 9 = common a b := by omega
          unfold bitK
          rw [if_neg (by omega), if_neg (by omega)]
          simp only [Int.toNat_natCast, e9, hx, hy]
          split
          · rfl
          · rw [hs (8 - i % 9) (by omega)]
      · have e9 : (9 * common a b + 1 + z) / 9 = common a b := by omega
        have em : (9 * common a b + 1 + z) % 9 = 1 + z := by omega
        rw [hcc]
        unfold bitK
        rw [if_neg (by omega), if_neg (by omega)]
        simp only [Int.toNat_natCast, e9, em, hx, hy]
        have e8 : 8 - (1 + z) = 7 - z := by omega
        rw [if_neg (by omega), if_neg (by omega), e8, hp.1, hp.2]
        split <;> rfl
theorem differ_way (w a b : Bytes) : differ (w ++ a) (w ++ b) = if differ a b < 0 then differ a b else differ a b + 9 * w.length := by
  unfold differ
  simp only [common_way, List.length_append]
  have ga : (w ++ a).getD (w.length + common a b) 0 = a.getD (common a b) 0 := by rw [List.getD_eq_getElem?_getD, List.getElem?_append_right (by omega), Nat.add_sub_cancel_left, List.getD_eq_getElem?_getD]
  have gb : (w ++ b).getD (w.length + common a b) 0 = b.getD (common a b) 0 := by rw [List.getD_eq_getElem?_getD, List.getElem?_append_right (by omega), Nat.add_sub_cancel_left, List.getD_eq_getElem?_getD]
  rw [ga, gb]
  by_cases h1 : common a b = a.length <;> by_cases h2 : common a b = b.length
  · simp [h1, h2]
    omega
  · have h1' : w.length + common a b = w.length + a.length := by omega
    have h2' : ¬ w.length + common a b = w.length + b.length := by omega
    simp [h1, h2]
    omega
  · simp [h1, h2]
    omega
  · simp [h1, h2]
    omega

/-! what is behind all that begins with a key -/
theorem trim_cons (x : UInt8) (p : Bytes) : trim255 (x :: p) = if trim255 p = [] then (if x = 255 then [] else [x]) else x :: trim255 p := by
  unfold trim255
  rw [List.reverse_cons, List.dropWhile_append]
  by_cases h : (p.reverse.dropWhile (· == 255)) = []
  · simp [h]
    by_cases hx : x = 255
    · simp [hx]
    · simp [hx]
  · have : (p.reverse.dropWhile (· == 255)).isEmpty = false := by simpa using h
    simp [this, h]
theorem behind_nil : behind [] = none := by simp [behind, trim255]
theorem behind_cons (x : UInt8) (p : Bytes) : behind (x :: p) = match behind p with
    | some b => some (x :: b)
    | none => if x = 255 then none else some [x + 1] := by
  unfold behind
  rw [trim_cons]
  by_cases h : trim255 p = []
  · simp only [h, if_true]
    by_cases hx : x = 255 <;> simp [hx]
  · simp only [h, if_false]
    cases hq : trim255 p with
    | nil => exact absurd hq h
    | cons y q => simp
theorem u8_succ {x : UInt8} (h : x ≠ 255) : x.toNat + 1 = (x + 1).toNat := by
  have h1 := x.toNat_lt
  have h2 : x.toNat ≠ 255 := fun e => h (UInt8.toNat_inj.1 (by rw [e]; rfl))
  rw [UInt8.toNat_add]
  simp
  omega
theorem behind_between (p k : Bytes) : (decide (0 ≤ cmpB k p) && (match behind p with | none => true | some b => decide (cmpB k b < 0))) = begins k p := by
  induction p generalizing k with
  | nil =>
    rw [behind_nil, begins_nil, cmp_nil_r]
    split <;> rfl
  | cons x p ih =>
    cases k with
    | nil => simp [cmp_nil_l, begins]
    | cons y k =>
      rw [begins_cons, behind_cons, cmp_cons, ← ih k]
      rcases u8_tri y x with h | rfl | h
      · rw [if_pos h]
        have := u8_ne h
        simp [this]
      · rw [if_neg (u8_irr y), if_neg (u8_irr y)]
        cases hb : behind p with
        | some b => simp [cmp_cons, u8_irr]
        | none =>
          by_cases hx : y = 255
          · simp [hx]
          · have := u8_succ hx
            have : y < y + 1 := by rw [UInt8.lt_iff_toNat_lt]; omega
            simp [hx, cmp_cons, this]
      · rw [if_neg (u8_asym h), if_pos h]
        have hne := (u8_ne h).symm
        cases hb : behind p with
        | some b => simp [cmp_cons, u8_asym h, h, hne]
        | none =>
          have hx : x ≠ 255 := by
            intro e
            subst e
            rw [UInt8.lt_iff_toNat_lt] at h
            have := y.toNat_lt
            have e2 : (255 : UInt8).toNat = 255 := rfl
            omega
          have h1 := u8_succ hx
          have h2 : ¬ y < x + 1 := by rw [UInt8.lt_iff_toNat_lt] at h ⊢; omega
          simp only [hx, if_false, cmp_cons, h2, cmp_nil_r]
          have he : (y == x) = false := by simpa using hne
          rw [he]
          split
          · simp
          · split <;> simp
theorem least_next (p k : Bytes) : cmpB k p ≤ 0 ∨ 0 ≤ cmpB k (p ++ [0]) := by
  induction p generalizing k with
  | nil =>
    rw [cmp_nil_r]
    cases k with
    | nil => simp
    | cons y k =>
      right
      have : ¬ y < 0 := by rw [UInt8.lt_iff_toNat_lt]; simp
      rw [List.nil_append, cmp_cons, if_neg this, cmp_nil_r]
      split
      · simp
      · split <;> simp
  | cons x p ih =>
    cases k with
    | nil => simp [cmp_nil_l]
    | cons y k =>
      rw [List.cons_append, cmp_cons, cmp_cons]
      rcases u8_tri y x with h | rfl | h
      · simp [h]
      · simp only [u8_irr, if_false]; exact ih k
      · simp [u8_asym h, h]
end Go.Proofs.YtbcflfkajkmkdaaDoor.X
