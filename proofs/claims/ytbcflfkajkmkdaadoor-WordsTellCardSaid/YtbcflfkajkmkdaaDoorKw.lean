/- Chapter 24, plain: operations, their lines, and how lines are read; no program in sight. -/
import Derived.Test.YtbcflfkajkmkdaaDoorKq
import Derived.Lib.ItoaLen
import Derived.Lib.ParseIntB
import Derived.Lib.SplitLaws
namespace Go.Proofs.YtbcflfkajkmkdaaDoor.X
open Go Go.Proofs
set_option linter.unusedVariables false
set_option linter.unusedSimpArgs false
set_option maxRecDepth 10000

@[ext] structure Opn where
  kind : Int := 0
  slot : Int := 0
  a : Int := 0
  b : Int := 0
  cursor : Int := 0
  tag : Int := 0
  n : Int := 0
  key : Bytes := []
  to : Bytes := []
  data : Bytes := []
  val : Int := 0
  pairs : List Pr := []
deriving DecidableEq

def names24 : List Bytes := [[], [109, 97, 107, 101], [102, 114, 101, 101], [112, 117, 116], [103, 101, 116], [100, 114, 111, 112], [102, 108, 111, 111, 114], [99, 101, 105, 108], [108, 111, 110, 103, 101, 115, 116], [114, 97, 110, 107], [115, 101, 108, 101, 99, 116], [112, 114, 101, 102, 105, 120], [114, 97, 110, 103, 101], [111, 112, 101, 110], [115, 101, 101, 107], [110, 101, 120, 116], [112, 114, 101, 118], [99, 108, 111, 115, 101], [115, 101, 116], [101, 110, 99, 111, 100, 101], [100, 101, 99, 111, 100, 101], [108, 111, 97, 100], [108, 101, 110]]
def nameOf (k : Int) : Bytes := names24.getD k.toNat []
def idxN : List Bytes → Bytes → Option Nat
  | [], _ => none
  | x :: l, p => if x = p then some 0 else (idxN l p).map (· + 1)
def kindOf (p : Bytes) : Int := ((idxN names24 p).getD 0 : Nat)
theorem idxN_at : ∀ k : Fin 23, idxN names24 (names24.getD k.val []) = some k.val := by decide +kernel
theorem kindOf_at {k : Nat} {p : Bytes} (h : names24[k]? = some p) : kindOf p = k := by
  have hk : k < 23 := (List.getElem?_eq_some_iff.1 h).1
  have := idxN_at ⟨k, hk⟩
  simp only [List.getD, h, Option.getD_some] at this
  unfold kindOf
  rw [this]
  rfl
theorem idxN_some {l : List Bytes} {p : Bytes} {k : Nat} (h : idxN l p = some k) : l[k]? = some p := by
  induction l generalizing k with
  | nil => cases h
  | cons x l ih =>
    unfold idxN at h
    split at h
    · injection h with h
      subst h
      simp_all
    · cases hi : idxN l p with
      | none => rw [hi] at h; cases h
      | some j =>
        rw [hi] at h
        injection h with h
        subst h
        simpa using ih hi
theorem kindOf_bd (p : Bytes) : 0 ≤ kindOf p ∧ kindOf p < 23 := by
  unfold kindOf
  cases h : idxN names24 p with
  | none => simp
  | some k =>
    have : k < 23 := (List.getElem?_eq_some_iff.1 (idxN_some h)).1
    simp
    omega
theorem kindOf_none {p : Bytes} (h : ∀ k, 1 ≤ k → names24[k]? ≠ some p) : kindOf p = 0 := by
  unfold kindOf
  cases hi : idxN names24 p with
  | none => rfl
  | some k =>
    cases k with
    | zero => rfl
    | succ k => exact absurd (idxN_some hi) (h (k + 1) (by omega))
theorem kindOf_name {k : Int} (h0 : 1 ≤ k) (h1 : k < 23) : kindOf (nameOf k) = k := by
  have : names24[k.toNat]? = some (nameOf k) := by
    unfold nameOf
    have hl : k.toNat < names24.length := by simp [names24]; omega
    rw [List.getD, List.getElem?_eq_getElem hl]
    rfl
  rw [kindOf_at this]
  omega

def hexTab : Bytes := [48, 49, 50, 51, 52, 53, 54, 55, 56, 57, 97, 98, 99, 100, 101, 102]
def hx (b : UInt8) : Bytes := [hexTab.getD (b.toNat / 16) 0, hexTab.getD (b.toNat % 16) 0]
def hexB (l : Bytes) : Bytes := l.flatMap hx
def dec (v : Int) : Bytes := Lib.decDigits v.toNat
def pI (nm : Bytes) (n : Int) : List Bytes := if n = 0 then [] else [nm ++ 61 :: Lib.itoa n]
def pB (nm : Bytes) (l : Bytes) : List Bytes := if l = [] then [] else [nm ++ 61 :: hexB l]
def pU (nm : Bytes) (v : Int) : List Bytes := if v = 0 then [] else [nm ++ 61 :: dec v]
def nSlot : Bytes := [115, 108, 111, 116]
def nA : Bytes := [97]
def nB : Bytes := [98]
def nCursor : Bytes := [99, 117, 114, 115, 111, 114]
def nTag : Bytes := [116, 97, 103]
def nN : Bytes := [110]
def nKey : Bytes := [107, 101, 121]
def nTo : Bytes := [116, 111]
def nData : Bytes := [100, 97, 116, 97]
def nVal : Bytes := [118, 97, 108]
def nPair : Bytes := [112, 97, 105, 114]
def pP (p : Pr) : Bytes := nPair ++ 61 :: (hexB p.1 ++ 58 :: dec p.2)
def joinS (ps : List Bytes) : Bytes := ps.flatMap fun p => 32 :: p
def numF (o : Opn) : List (Bytes × Int) := [(nSlot, o.slot), (nA, o.a), (nB, o.b), (nCursor, o.cursor), (nTag, o.tag), (nN, o.n)]
def bytF (o : Opn) : List (Bytes × Bytes) := [(nKey, o.key), (nTo, o.to), (nData, o.data)]
def partsOf (o : Opn) : List Bytes := (numF o).flatMap (fun x => pI x.1 x.2) ++ ((bytF o).flatMap (fun x => pB x.1 x.2) ++ (pU nVal o.val ++ o.pairs.map pP))
def sayB (o : Opn) : Bytes := nameOf o.kind ++ joinS (partsOf o)
def sayO (o : Opn) : Bytes := if o.kind < 1 ∨ 23 ≤ o.kind then [] else sayB o
theorem joinS_append (a b : List Bytes) : joinS (a ++ b) = joinS a ++ joinS b := by simp [joinS]

/-! ### parts between a byte -/
def partsC (c : UInt8) : Bytes → List Bytes
  | [] => [[]]
  | x :: r => if x = c then [] :: partsC c r else match partsC c r with
    | [] => [[x]]
    | p :: ps => (x :: p) :: ps
theorem partsC_ne (c : UInt8) (l : Bytes) : partsC c l ≠ [] := by
  cases l with
  | nil => simp [partsC]
  | cons x r =>
    unfold partsC
    split
    · simp
    · split <;> simp
theorem partsC_free {c : UInt8} {a : Bytes} (h : c ∉ a) : partsC c a = [a] := by
  induction a with
  | nil => rfl
  | cons x r ih =>
    have h1 : x ≠ c := fun e => h (by simp [e])
    unfold partsC
    rw [if_neg h1, ih (fun hm => h (List.mem_cons_of_mem _ hm))]
theorem partsC_cons {c : UInt8} {a : Bytes} (h : c ∉ a) (r : Bytes) : partsC c (a ++ c :: r) = a :: partsC c r := by
  induction a with
  | nil => simp [partsC]
  | cons x a ih =>
    have h1 : x ≠ c := fun e => h (by simp [e])
    rw [List.cons_append]
    conv => lhs; unfold partsC
    rw [if_neg h1, ih (fun hm => h (List.mem_cons_of_mem _ hm))]
theorem partsC_join {a : Bytes} {ps : List Bytes} (h : (32 : UInt8) ∉ a) (hp : ∀ p ∈ ps, (32 : UInt8) ∉ p) : partsC 32 (a ++ joinS ps) = a :: ps := by
  induction ps generalizing a with
  | nil => simpa [joinS] using partsC_free h
  | cons p ps ih =>
    have e : a ++ joinS (p :: ps) = a ++ 32 :: (p ++ joinS ps) := by simp [joinS]
    rw [e, partsC_cons h, ih (hp p List.mem_cons_self) (fun q hq => hp q (List.mem_cons_of_mem _ hq))]

/-- ahead of the first of a byte; behind it -/
def cutA (c : UInt8) (l : Bytes) : Bytes := l.takeWhile (· != c)
def cutB (c : UInt8) (l : Bytes) : Bytes := (l.dropWhile (· != c)).drop 1
theorem cutA_at {c : UInt8} {a r : Bytes} (h : c ∉ a) : cutA c (a ++ c :: r) = a := by
  induction a with
  | nil => simp [cutA]
  | cons x a ih =>
    have h1 : x ≠ c := fun e => h (by simp [e])
    have := ih (fun hm => h (List.mem_cons_of_mem _ hm))
    unfold cutA at this ⊢
    simp [h1, this]
theorem cutB_at {c : UInt8} {a r : Bytes} (h : c ∉ a) : cutB c (a ++ c :: r) = r := by
  induction a with
  | nil => simp [cutB]
  | cons x a ih =>
    have h1 : x ≠ c := fun e => h (by simp [e])
    have := ih (fun hm => h (List.mem_cons_of_mem _ hm))
    unfold cutB at this ⊢
    simp [h1] at this ⊢
    exact this

/-! ### bytes that numbers are told by -/
theorem decDigits_mem (u : Nat) : ∀ c ∈ Lib.decDigits u, 48 ≤ c.toNat ∧ c.toNat ≤ 57 := by
  induction u using Nat.strongRecOn with
  | _ u ih =>
    rw [Lib.decDigits]
    split
    · intro c hc
      simp at hc
      subst hc
      simp
      omega
    · intro c hc
      rw [List.mem_append] at hc
      rcases hc with hc | hc
      · exact ih _ (by omega) c hc
      · simp at hc
        subst hc
        simp
        omega
theorem decDigits_ne (u : Nat) : Lib.decDigits u ≠ [] := by
  rw [Lib.decDigits]
  split <;> simp
theorem itoa_mem (n : Int) : ∀ c ∈ Lib.itoa n, c.toNat = 45 ∨ 48 ≤ c.toNat ∧ c.toNat ≤ 57 := by
  intro c hc
  unfold Lib.itoa at hc
  split at hc
  · rw [List.mem_cons] at hc
    rcases hc with rfl | hc
    · exact .inl rfl
    · exact .inr (decDigits_mem _ c hc)
  · exact .inr (decDigits_mem _ c hc)
theorem hexTab_at : ∀ j : Fin 16, 48 ≤ (hexTab.getD j.val 0).toNat ∧ (hexTab.getD j.val 0).toNat ≤ 57 ∨ 97 ≤ (hexTab.getD j.val 0).toNat ∧ (hexTab.getD j.val 0).toNat ≤ 102 := by decide
theorem hexB_mem (l : Bytes) : ∀ c ∈ hexB l, 48 ≤ c.toNat ∧ c.toNat ≤ 57 ∨ 97 ≤ c.toNat ∧ c.toNat ≤ 102 := by
  intro c hc
  unfold hexB at hc
  rw [List.mem_flatMap] at hc
  obtain ⟨x, _, hc⟩ := hc
  have hxl : x.toNat < 256 := x.toNat_lt
  unfold hx at hc
  simp only [List.mem_cons, List.not_mem_nil, or_false] at hc
  rcases hc with rfl | rfl
  · exact hexTab_at ⟨x.toNat / 16, by omega⟩
  · exact hexTab_at ⟨x.toNat % 16, by omega⟩
theorem nmem {l : Bytes} {c : UInt8} (h : ∀ x ∈ l, x.toNat ≠ c.toNat) : c ∉ l := fun hc => h c hc rfl
theorem itoa_no {c : UInt8} (h : c.toNat < 45) (n : Int) : c ∉ Lib.itoa n := nmem fun x hx => by have := itoa_mem n x hx; omega
theorem itoa_no2 {c : UInt8} (h : 57 < c.toNat) (n : Int) : c ∉ Lib.itoa n := nmem fun x hx => by have := itoa_mem n x hx; omega
theorem dec_no {c : UInt8} (h : c.toNat < 48 ∨ 57 < c.toNat) (v : Int) : c ∉ dec v := nmem fun x hx => by have := decDigits_mem _ x hx; omega
theorem hexB_no {c : UInt8} (h : c.toNat < 48 ∨ 57 < c.toNat ∧ c.toNat < 97) (l : Bytes) : c ∉ hexB l := nmem fun x hx => by have := hexB_mem l x hx; omega

/-! ### a reader of lines -/
structure Rdr where
  num : Bytes → Int
  byt : Bytes → Bytes
  uns : Bytes → Int
  pair : Bytes → Pr
def takeG (R : Rdr) (o : Opn) (nm v : Bytes) : Opn :=
  if nm = nSlot then { o with slot := R.num v }
  else if nm = nA then { o with a := R.num v }
  else if nm = nB then { o with b := R.num v }
  else if nm = nCursor then { o with cursor := R.num v }
  else if nm = nTag then { o with tag := R.num v }
  else if nm = nN then { o with n := R.num v }
  else if nm = nKey then { o with key := R.byt v }
  else if nm = nTo then { o with to := R.byt v }
  else if nm = nData then { o with data := R.byt v }
  else if nm = nVal then { o with val := R.uns v }
  else if nm = nPair then { o with pairs := o.pairs ++ [R.pair v] }
  else o
def stepG (R : Rdr) (o : Opn) (p : Bytes) : Opn := takeG R o (cutA 61 p) (cutB 61 p)
def foldG (R : Rdr) (s : Bytes) : Opn := (partsC 32 s).tail.foldl (stepG R) { kind := kindOf ((partsC 32 s).headD []) }
def readG (R : Rdr) (s : Bytes) : Option Opn := if (foldG R s).kind = 0 ∨ sayO (foldG R s) ≠ s then none else some (foldG R s)

def I64 (n : Int) : Prop := -9223372036854775808 ≤ n ∧ n ≤ 9223372036854775807
def U64 (n : Int) : Prop := 0 ≤ n ∧ n ≤ 18446744073709551615
structure OpOk (o : Opn) : Prop where
  slot : I64 o.slot
  a : I64 o.a
  b : I64 o.b
  cursor : I64 o.cursor
  tag : I64 o.tag
  n : I64 o.n
  val : U64 o.val
  pairs : ∀ p ∈ o.pairs, U64 p.2
structure RdrOk (R : Rdr) : Prop where
  num : ∀ n, I64 n → R.num (Lib.itoa n) = n
  byt : ∀ l, R.byt (hexB l) = l
  uns : ∀ v, U64 v → R.uns (dec v) = v
  pair : ∀ (k : Bytes) (v : Int), U64 v → R.pair (hexB k ++ 58 :: dec v) = (k, v)
  numB : ∀ s, I64 (R.num s)
  unsB : ∀ s, U64 (R.uns s)
  pairB : ∀ s, U64 (R.pair s).2

theorem takeG_cases (R : Rdr) (o : Opn) (nm v : Bytes) (P : Opn → Prop) (c0 : P { o with slot := R.num v }) (c1 : P { o with a := R.num v }) (c2 : P { o with b := R.num v }) (c3 : P { o with cursor := R.num v }) (c4 : P { o with tag := R.num v }) (c5 : P { o with n := R.num v })
    (c6 : P { o with key := R.byt v }) (c7 : P { o with to := R.byt v }) (c8 : P { o with data := R.byt v }) (c9 : P { o with val := R.uns v }) (c10 : P { o with pairs := o.pairs ++ [R.pair v] }) (c11 : P o) : P (takeG R o nm v) := by
  unfold takeG
  by_cases e : nm = nSlot
  · rw [if_pos e]; exact c0
  rw [if_neg e]
  by_cases e : nm = nA
  · rw [if_pos e]; exact c1
  rw [if_neg e]
  by_cases e : nm = nB
  · rw [if_pos e]; exact c2
  rw [if_neg e]
  by_cases e : nm = nCursor
  · rw [if_pos e]; exact c3
  rw [if_neg e]
  by_cases e : nm = nTag
  · rw [if_pos e]; exact c4
  rw [if_neg e]
  by_cases e : nm = nN
  · rw [if_pos e]; exact c5
  rw [if_neg e]
  by_cases e : nm = nKey
  · rw [if_pos e]; exact c6
  rw [if_neg e]
  by_cases e : nm = nTo
  · rw [if_pos e]; exact c7
  rw [if_neg e]
  by_cases e : nm = nData
  · rw [if_pos e]; exact c8
  rw [if_neg e]
  by_cases e : nm = nVal
  · rw [if_pos e]; exact c9
  rw [if_neg e]
  by_cases e : nm = nPair
  · rw [if_pos e]; exact c10
  rw [if_neg e]
  exact c11
theorem takeG_ok {R : Rdr} (hR : RdrOk R) {o : Opn} (ho : OpOk o) (nm v : Bytes) : OpOk (takeG R o nm v) := by
  obtain ⟨h1, h2, h3, h4, h5, h6, h7, h8⟩ := ho
  have hn := hR.numB v
  have hu := hR.unsB v
  have hp := hR.pairB v
  refine takeG_cases R o nm v OpOk ⟨hn, h2, h3, h4, h5, h6, h7, h8⟩ ⟨h1, hn, h3, h4, h5, h6, h7, h8⟩ ⟨h1, h2, hn, h4, h5, h6, h7, h8⟩ ⟨h1, h2, h3, hn, h5, h6, h7, h8⟩ ⟨h1, h2, h3, h4, hn, h6, h7, h8⟩ ⟨h1, h2, h3, h4, h5, hn, h7, h8⟩
    ⟨h1, h2, h3, h4, h5, h6, h7, h8⟩ ⟨h1, h2, h3, h4, h5, h6, h7, h8⟩ ⟨h1, h2, h3, h4, h5, h6, h7, h8⟩ ⟨h1, h2, h3, h4, h5, h6, hu, h8⟩ ⟨h1, h2, h3, h4, h5, h6, h7, fun p hm => ?_⟩ ⟨h1, h2, h3, h4, h5, h6, h7, h8⟩
  have hm : p ∈ o.pairs ++ [R.pair v] := hm
  rw [List.mem_append, List.mem_singleton] at hm
  rcases hm with hm | rfl
  · exact h8 p hm
  · exact hp
theorem takeG_kind (R : Rdr) (o : Opn) (nm v : Bytes) : (takeG R o nm v).kind = o.kind := by
  exact takeG_cases R o nm v (fun x => x.kind = o.kind) rfl rfl rfl rfl rfl rfl rfl rfl rfl rfl rfl rfl
theorem foldl_kind (R : Rdr) (ps : List Bytes) (o : Opn) : (ps.foldl (stepG R) o).kind = o.kind := by
  induction ps generalizing o with
  | nil => rfl
  | cons p ps ih =>
    rw [List.foldl_cons, ih]
    exact takeG_kind R o _ _
theorem foldl_ok {R : Rdr} (hR : RdrOk R) (ps : List Bytes) {o : Opn} (ho : OpOk o) : OpOk (ps.foldl (stepG R) o) := by
  induction ps generalizing o with
  | nil => exact ho
  | cons p ps ih => exact ih (takeG_ok hR ho _ _)
theorem OpOk.zero (k : Int) : OpOk { kind := k } := by
  refine ⟨?_, ?_, ?_, ?_, ?_, ?_, ?_, fun p hp => by cases hp⟩ <;> constructor <;> simp
theorem foldG_ok {R : Rdr} (hR : RdrOk R) (s : Bytes) : OpOk (foldG R s) := foldl_ok hR _ (OpOk.zero _)
theorem foldG_kind (R : Rdr) (s : Bytes) : 0 ≤ (foldG R s).kind ∧ (foldG R s).kind < 23 := by
  unfold foldG
  rw [foldl_kind]
  exact kindOf_bd _

/-- the parts of what is said have no blanks -/
theorem nm_no {nm v : Bytes} {c : UInt8} (h1 : c ∉ nm) (h2 : c ≠ 61) (h3 : c ∉ v) : c ∉ nm ++ 61 :: v := by
  simp [h1, h2, h3]
theorem name_no : ∀ k : Fin 23, (32 : UInt8) ∉ names24.getD k.val [] ∧ (61 : UInt8) ∉ names24.getD k.val [] := by decide +kernel
theorem nameOf_no {k : Int} (h0 : 0 ≤ k) (h1 : k < 23) : (32 : UInt8) ∉ nameOf k ∧ (61 : UInt8) ∉ nameOf k := name_no ⟨k.toNat, by omega⟩
theorem mem_pI {nm : Bytes} {n : Int} {p : Bytes} (h : p ∈ pI nm n) : p = nm ++ 61 :: Lib.itoa n := by
  unfold pI at h
  split at h
  · cases h
  · simpa using h
theorem mem_pB {nm l : Bytes} {p : Bytes} (h : p ∈ pB nm l) : p = nm ++ 61 :: hexB l := by
  unfold pB at h
  split at h
  · cases h
  · simpa using h
theorem mem_pU {nm : Bytes} {n : Int} {p : Bytes} (h : p ∈ pU nm n) : p = nm ++ 61 :: dec n := by
  unfold pU at h
  split at h
  · cases h
  · simpa using h
/-- each part is a name, '=', and what has neither '=' nor a blank -/
theorem part_form {o : Opn} {p : Bytes} (h : p ∈ partsOf o) : ∃ nm v : Bytes, p = nm ++ 61 :: v ∧ (61 : UInt8) ∉ nm ∧ (32 : UInt8) ∉ nm ∧ (61 : UInt8) ∉ v ∧ (32 : UInt8) ∉ v := by
  unfold partsOf at h
  rw [List.mem_append, List.mem_append, List.mem_append] at h
  rcases h with h | h | h | h
  · rw [List.mem_flatMap] at h
    obtain ⟨x, hx, h⟩ := h
    refine ⟨_, _, mem_pI h, ?_, ?_, itoa_no2 (by decide) _, itoa_no (by decide) _⟩ <;>
    · simp only [numF, List.mem_cons, List.not_mem_nil, or_false] at hx
      rcases hx with rfl | rfl | rfl | rfl | rfl | rfl <;> dsimp only <;> decide
  · rw [List.mem_flatMap] at h
    obtain ⟨x, hx, h⟩ := h
    refine ⟨_, _, mem_pB h, ?_, ?_, hexB_no (by decide) _, hexB_no (by decide) _⟩ <;>
    · simp only [bytF, List.mem_cons, List.not_mem_nil, or_false] at hx
      rcases hx with rfl | rfl | rfl <;> dsimp only <;> decide
  · exact ⟨_, _, mem_pU h, by decide, by decide, dec_no (by decide) _, dec_no (by decide) _⟩
  · rw [List.mem_map] at h
    obtain ⟨x, hx, rfl⟩ := h
    refine ⟨_, _, rfl, by decide, by decide, ?_, ?_⟩
    · have h1 := hexB_no (c := 61) (by decide) x.1
      have h2 := dec_no (c := 61) (by decide) x.2
      simp [h1, h2]
    · have h1 := hexB_no (c := 32) (by decide) x.1
      have h2 := dec_no (c := 32) (by decide) x.2
      simp [h1, h2]
theorem parts_say {o : Opn} (h0 : 1 ≤ o.kind) (h1 : o.kind < 23) : partsC 32 (sayO o) = nameOf o.kind :: partsOf o := by
  unfold sayO
  rw [if_neg (by omega)]
  refine partsC_join (nameOf_no (by omega) h1).1 fun p hp => ?_
  obtain ⟨nm, v, rfl, _, h2, _, h3⟩ := part_form hp
  exact nm_no h2 (by decide) h3

theorem step_at {R : Rdr} {o : Opn} {nm v : Bytes} (h : (61 : UInt8) ∉ nm) : stepG R o (nm ++ 61 :: v) = takeG R o nm v := by
  unfold stepG
  rw [cutA_at h, cutB_at h]
theorem fold_pI {R : Rdr} {o : Opn} {nm : Bytes} {n : Int} {o' : Opn} (hn : (61 : UInt8) ∉ nm) (h0 : n = 0 → o' = o) (h1 : n ≠ 0 → takeG R o nm (Lib.itoa n) = o') : (pI nm n).foldl (stepG R) o = o' := by
  unfold pI
  split
  · rename_i e
    exact (h0 e).symm
  · rename_i e
    rw [List.foldl_cons, List.foldl_nil, step_at hn]
    exact h1 e
theorem fold_pB {R : Rdr} {o : Opn} {nm l : Bytes} {o' : Opn} (hn : (61 : UInt8) ∉ nm) (h0 : l = [] → o' = o) (h1 : takeG R o nm (hexB l) = o') : (pB nm l).foldl (stepG R) o = o' := by
  unfold pB
  split
  · rename_i e
    exact (h0 e).symm
  · rw [List.foldl_cons, List.foldl_nil, step_at hn]
    exact h1
theorem fold_pU {R : Rdr} {o : Opn} {nm : Bytes} {n : Int} {o' : Opn} (hn : (61 : UInt8) ∉ nm) (h0 : n = 0 → o' = o) (h1 : takeG R o nm (dec n) = o') : (pU nm n).foldl (stepG R) o = o' := by
  unfold pU
  split
  · rename_i e
    exact (h0 e).symm
  · rw [List.foldl_cons, List.foldl_nil, step_at hn]
    exact h1
theorem fold_pP {R : Rdr} (hR : RdrOk R) (l : List Pr) (o : Opn) (hl : ∀ p ∈ l, U64 p.2) : (l.map pP).foldl (stepG R) o = { o with pairs := o.pairs ++ l } := by
  induction l generalizing o with
  | nil => simp
  | cons p l ih =>
    rw [List.map_cons, List.foldl_cons]
    have e : stepG R o (pP p) = { o with pairs := o.pairs ++ [p] } := by
      unfold pP
      rw [step_at (by decide)]
      show { o with pairs := o.pairs ++ [R.pair (hexB p.1 ++ 58 :: dec p.2)] } = _
      rw [hR.pair _ _ (hl p List.mem_cons_self)]
    rw [e, ih _ (fun q hq => hl q (List.mem_cons_of_mem _ hq))]
    simp
theorem fold_parts {R : Rdr} (hR : RdrOk R) {o : Opn} (ho : OpOk o) : (partsOf o).foldl (stepG R) { kind := o.kind } = o := by
  unfold partsOf numF bytF
  simp only [List.flatMap_cons, List.flatMap_nil, List.append_nil, List.foldl_append]
  rw [fold_pI (nm := nSlot) (o' := { kind := o.kind, slot := o.slot }) (by decide) (fun e => by rw [e]) (fun _ => by show Opn.mk _ (R.num _) _ _ _ _ _ _ _ _ _ _ = _; rw [hR.num _ ho.slot])]
  rw [fold_pI (nm := nA) (o' := { kind := o.kind, slot := o.slot, a := o.a }) (by decide) (fun e => by rw [e]) (fun _ => by show Opn.mk _ _ (R.num _) _ _ _ _ _ _ _ _ _ = _; rw [hR.num _ ho.a])]
  rw [fold_pI (nm := nB) (o' := { kind := o.kind, slot := o.slot, a := o.a, b := o.b }) (by decide) (fun e => by rw [e]) (fun _ => by show Opn.mk _ _ _ (R.num _) _ _ _ _ _ _ _ _ = _; rw [hR.num _ ho.b])]
  rw [fold_pI (nm := nCursor) (o' := { kind := o.kind, slot := o.slot, a := o.a, b := o.b, cursor := o.cursor }) (by decide) (fun e => by rw [e]) (fun _ => by show Opn.mk _ _ _ _ (R.num _) _ _ _ _ _ _ _ = _; rw [hR.num _ ho.cursor])]
  rw [fold_pI (nm := nTag) (o' := { kind := o.kind, slot := o.slot, a := o.a, b := o.b, cursor := o.cursor, tag := o.tag }) (by decide) (fun e => by rw [e]) (fun _ => by show Opn.mk _ _ _ _ _ (R.num _) _ _ _ _ _ _ = _; rw [hR.num _ ho.tag])]
  rw [fold_pI (nm := nN) (o' := { kind := o.kind, slot := o.slot, a := o.a, b := o.b, cursor := o.cursor, tag := o.tag, n := o.n }) (by decide) (fun e => by rw [e]) (fun _ => by show Opn.mk _ _ _ _ _ _ (R.num _) _ _ _ _ _ = _; rw [hR.num _ ho.n])]
  rw [fold_pB (nm := nKey) (o' := { kind := o.kind, slot := o.slot, a := o.a, b := o.b, cursor := o.cursor, tag := o.tag, n := o.n, key := o.key }) (by decide) (fun e => by rw [e]) (by show Opn.mk _ _ _ _ _ _ _ (R.byt _) _ _ _ _ = _; rw [hR.byt])]
  rw [fold_pB (nm := nTo) (o' := { kind := o.kind, slot := o.slot, a := o.a, b := o.b, cursor := o.cursor, tag := o.tag, n := o.n, key := o.key, to := o.to }) (by decide) (fun e => by rw [e]) (by show Opn.mk _ _ _ _ _ _ _ _ (R.byt _) _ _ _ = _; rw [hR.byt])]
  rw [fold_pB (nm := nData) (o' := { kind := o.kind, slot := o.slot, a := o.a, b := o.b, cursor := o.cursor, tag := o.tag, n := o.n, key := o.key, to := o.to, data := o.data }) (by decide) (fun e => by rw [e]) (by show Opn.mk _ _ _ _ _ _ _ _ _ (R.byt _) _ _ = _; rw [hR.byt])]
  rw [fold_pU (nm := nVal) (o' := { kind := o.kind, slot := o.slot, a := o.a, b := o.b, cursor := o.cursor, tag := o.tag, n := o.n, key := o.key, to := o.to, data := o.data, val := o.val }) (by decide) (fun e => by rw [e]) (by show Opn.mk _ _ _ _ _ _ _ _ _ _ (R.uns _) _ = _; rw [hR.uns _ ho.val])]
  rw [fold_pP hR _ _ ho.pairs]
  rfl
theorem foldG_say {R : Rdr} (hR : RdrOk R) {o : Opn} (ho : OpOk o) (h0 : 1 ≤ o.kind) (h1 : o.kind < 23) : foldG R (sayO o) = o := by
  unfold foldG
  rw [parts_say h0 h1]
  show (partsOf o).foldl (stepG R) { kind := kindOf (nameOf o.kind) } = o
  rw [kindOf_name h0 h1]
  exact fold_parts hR ho
/-- what was said is read as it was -/
theorem read_say {R : Rdr} (hR : RdrOk R) {o : Opn} (ho : OpOk o) (h0 : 1 ≤ o.kind) (h1 : o.kind < 23) : readG R (sayO o) = some o := by
  unfold readG
  rw [foldG_say hR ho h0 h1, if_neg (by simp; omega)]
theorem read_some {R : Rdr} (hR : RdrOk R) {s : Bytes} {o : Opn} (h : readG R s = some o) : sayO o = s ∧ OpOk o ∧ 1 ≤ o.kind ∧ o.kind < 23 := by
  unfold readG at h
  split at h
  · cases h
  · rename_i hn
    injection h with h
    subst h
    have hk := foldG_kind R s
    simp only [not_or, Decidable.not_not] at hn
    exact ⟨hn.2, foldG_ok hR s, by omega, hk.2⟩
/-- two readers that read what is said read alike -/
theorem read_alike {R R' : Rdr} (hR : RdrOk R) (hR' : RdrOk R') (s : Bytes) : readG R s = readG R' s := by
  cases h : readG R s with
  | some o =>
    obtain ⟨rfl, h2, h3, h4⟩ := read_some hR h
    exact (read_say hR' h2 h3 h4).symm
  | none =>
    cases h' : readG R' s with
    | none => rfl
    | some o =>
      obtain ⟨rfl, h2, h3, h4⟩ := read_some hR' h'
      rw [read_say hR h2 h3 h4] at h
      cases h
theorem say_inj {R : Rdr} (hR : RdrOk R) {o p : Opn} (ho : OpOk o) (hp : OpOk p) (h0 : 1 ≤ o.kind) (h1 : o.kind < 23) (h2 : 1 ≤ p.kind) (h3 : p.kind < 23) : sayO o = sayO p ↔ o = p := by
  constructor
  · intro h
    have := read_say hR ho h0 h1
    rw [h, read_say hR hp h2 h3] at this
    injection this with this
    exact this.symm
  · intro h; rw [h]
/-- as many blanks as '=' -/
theorem say_count (o : Opn) (h0 : 1 ≤ o.kind) (h1 : o.kind < 23) : (sayO o).count 32 = (sayO o).count 61 := by
  unfold sayO
  rw [if_neg (by omega)]
  have h := nameOf_no (k := o.kind) (by omega) h1
  have hq : ∀ p ∈ partsOf o, (32 : UInt8) ∉ p ∧ p.count 61 = 1 := fun p hp => by
    obtain ⟨nm, v, rfl, h1, h2, h3, h4⟩ := part_form hp
    refine ⟨nm_no h2 (by decide) h4, ?_⟩
    rw [List.count_append, List.count_cons, List.count_eq_zero.2 h1, List.count_eq_zero.2 h3]
    rfl
  unfold sayB
  rw [List.count_append, List.count_append, List.count_eq_zero.2 h.1, List.count_eq_zero.2 h.2]
  generalize partsOf o = ps at hq
  induction ps with
  | nil => rfl
  | cons p ps ih =>
    have h1 := hq p List.mem_cons_self
    have h2 := ih (fun q hq' => hq q (List.mem_cons_of_mem _ hq'))
    have e : joinS (p :: ps) = 32 :: (p ++ joinS ps) := by simp [joinS]
    rw [e, List.count_cons, List.count_cons, List.count_append, List.count_append, List.count_eq_zero.2 h1.1, h1.2]
    simp
    omega
/-- with a blank more it is no line -/
theorem read_blank {R : Rdr} (hR : RdrOk R) {o : Opn} (h0 : 1 ≤ o.kind) (h1 : o.kind < 23) (at_ : Nat) : readG R ((sayO o).take at_ ++ 32 :: (sayO o).drop at_) = none := by
  cases h : readG R ((sayO o).take at_ ++ 32 :: (sayO o).drop at_) with
  | none => rfl
  | some p =>
    obtain ⟨h2, _, h3, h4⟩ := read_some hR h
    have c1 := say_count o h0 h1
    have c2 := say_count p h3 h4
    rw [h2] at c2
    have e1 : (sayO o).count 32 = ((sayO o).take at_).count 32 + ((sayO o).drop at_).count 32 := by rw [← List.count_append, List.take_append_drop]
    have e2 : (sayO o).count 61 = ((sayO o).take at_).count 61 + ((sayO o).drop at_).count 61 := by rw [← List.count_append, List.take_append_drop]
    rw [List.count_append, List.count_append, List.count_cons, List.count_cons] at c2
    simp at c2
    omega
end Go.Proofs.YtbcflfkajkmkdaaDoor.X
