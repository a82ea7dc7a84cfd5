/- Bytes in order, in plain words: what two lists share, how they compare. No program in it. -/
import Derived.Lib.Bytealg
import Derived.Test.YtbcflfkajkmkdaaDoorXlib
namespace Go.Proofs.YtbcflfkajkmkdaaDoor.X
open Go
set_option linter.unusedVariables false

abbrev Bytes := List UInt8

def common : Bytes → Bytes → Nat
  | a :: as, b :: bs => if a = b then common as bs + 1 else 0
  | _, _ => 0
abbrev cmpB : Bytes → Bytes → Int := Lib.compareBytes

theorem common_le (a b : Bytes) : common a b ≤ a.length ∧ common a b ≤ b.length := by
  induction a generalizing b with
  | nil => simp [common]
  | cons x a ih =>
    cases b with
    | nil => simp [common]
    | cons y b =>
      unfold common
      split
      · have := ih b
        simp
        omega
      · simp
theorem common_step {a b : Bytes} {j : Nat} {x y : UInt8} (h : j ≤ common a b) (hx : a[j]? = some x) (hy : b[j]? = some y) : (x = y → j + 1 ≤ common a b) ∧ (x ≠ y → common a b = j) := by
  induction a generalizing b j with
  | nil => simp at hx
  | cons u a ih =>
    cases b with
    | nil => simp at hy
    | cons v b =>
      cases j with
      | zero =>
        simp at hx hy
        subst hx hy
        unfold common
        constructor
        · intro e; rw [if_pos e]; omega
        · intro e; rw [if_neg e]
      | succ j =>
        simp at hx hy
        unfold common at h ⊢
        split
        · rename_i e
          rw [if_pos e] at h
          have := ih (by omega) hx hy
          constructor
          · intro e; have := this.1 e; omega
          · intro e; have := this.2 e; omega
        · rename_i e
          rw [if_neg e] at h
          omega
theorem common_same {a b : Bytes} : ∀ {j : Nat}, j < common a b → a[j]? = b[j]? := by
  induction a generalizing b with
  | nil => intro j h; simp [common] at h
  | cons u a ih =>
    intro j h
    cases b with
    | nil => simp [common] at h
    | cons v b =>
      unfold common at h
      split at h
      · rename_i e
        subst e
        cases j with
        | zero => rfl
        | succ j => simpa using ih (by omega)
      · omega
theorem common_parts {a b : Bytes} {x y : UInt8} (hx : a[common a b]? = some x) (hy : b[common a b]? = some y) : x ≠ y := by
  intro e
  have := (common_step (Nat.le_refl _) hx hy).1 e
  omega
theorem common_comm (a b : Bytes) : common a b = common b a := by
  induction a generalizing b with
  | nil => cases b <;> rfl
  | cons u a ih =>
    cases b with
    | nil => rfl
    | cons v b =>
      unfold common
      by_cases e : u = v
      · rw [if_pos e, if_pos e.symm, ih]
      · rw [if_neg e, if_neg (fun h => e h.symm)]

/-- the bits of a key -/
def bitK (k : Bytes) (i : Int) : Int :=
  if i < 0 then 0 else
  match k[(i.toNat) / 9]? with
  | none => 0
  | some x => if i.toNat % 9 = 0 then 1 else ((x.toNat / 2 ^ (8 - i.toNat % 9) % 2 : Nat) : Int)

/-- how many zeros a byte begins with -/
def zeros8n (n : Nat) : Nat := if n = 0 then 8 else 7 - n.log2
def zeros8 (x : UInt8) : Nat := zeros8n x.toNat
theorem zeros8_le (x : UInt8) : zeros8 x ≤ 8 := by
  unfold zeros8 zeros8n
  split <;> omega

def differ (a b : Bytes) : Int :=
  let n := common a b
  if n = a.length ∧ n = b.length then -1
  else if n = a.length ∨ n = b.length then 9 * n
  else 9 * n + 1 + zeros8 ((a.getD n 0) ^^^ (b.getD n 0))

def begins (k p : Bytes) : Bool := decide (p.length ≤ k.length) && k.take p.length == p

/-- without the bytes 255 at its end -/
def trim255 (p : Bytes) : Bytes := (p.reverse.dropWhile (· == 255)).reverse
theorem trim255_snoc (p : Bytes) : trim255 (p ++ [255]) = trim255 p := by simp [trim255]
theorem trim255_stop (p : Bytes) (x : UInt8) (h : x ≠ 255) : trim255 (p ++ [x]) = p ++ [x] := by simp [trim255, h]
def behind (p : Bytes) : Option Bytes :=
  if trim255 p = [] then none else some ((trim255 p).set ((trim255 p).length - 1) (((trim255 p).getD ((trim255 p).length - 1) 0) + 1))

/-! small numbers -/
theorem and_one (n : Nat) (hn : n < 9223372036854775808) : IntKind.i64.wrap ((BitVec.ofInt IntKind.i64.bits (n : Int) &&& BitVec.ofInt IntKind.i64.bits 1).toNat : Int) = ((n % 2 : Nat) : Int) := by
  have e1 : (BitVec.ofInt IntKind.i64.bits (n : Int)).toNat = n := by
    simp [IntKind.bits]
    omega
  have e2 : (BitVec.ofInt IntKind.i64.bits 1).toNat = 1 := rfl
  rw [BitVec.toNat_and, e1, e2, Nat.and_one_is_mod]
  exact wrap_i64 (by omega) (by omega)
theorem and_one8 (n : Nat) (hn : n < 256) : IntKind.u8.wrap ((BitVec.ofInt IntKind.u8.bits (n : Int) &&& BitVec.ofInt IntKind.u8.bits 1).toNat : Int) = ((n % 2 : Nat) : Int) := by
  have e1 : (BitVec.ofInt IntKind.u8.bits (n : Int)).toNat = n := by
    simp [IntKind.bits]
    omega
  have e2 : (BitVec.ofInt IntKind.u8.bits 1).toNat = 1 := rfl
  rw [BitVec.toNat_and, e1, e2, Nat.and_one_is_mod]
  exact wrap_u8 (by omega) (by omega)
theorem ofInt_u8 (x : UInt8) : (BitVec.ofInt IntKind.u8.bits (x.toNat : Int)).toNat = x.toNat := by
  have hx := x.toNat_lt
  simp [IntKind.bits]
theorem xor8 (x y : UInt8) : IntKind.u8.wrap ((BitVec.ofInt IntKind.u8.bits (x.toNat : Int) ^^^ BitVec.ofInt IntKind.u8.bits (y.toNat : Int)).toNat : Int) = ((x ^^^ y).toNat : Int) := by
  rw [BitVec.toNat_xor, ofInt_u8, ofInt_u8, ← UInt8.toNat_xor]
  have := (x ^^^ y).toNat_lt
  exact wrap_u8 (by omega) (by omega)
theorem tab_at {a : Array UInt8} (x : UInt8) (f : Nat → UInt8) (h : (List.range 256).all (fun n => a[n]? == some (f n)) = true) : a[((x.toNat : Int)).toNat]? = some (f x.toNat) := by
  have := List.all_eq_true.1 h x.toNat (by simpa using x.toNat_lt)
  simpa using this
end Go.Proofs.YtbcflfkajkmkdaaDoor.X
