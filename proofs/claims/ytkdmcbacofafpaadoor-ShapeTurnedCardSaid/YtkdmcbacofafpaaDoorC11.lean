/- Cells, and what chapter 11 reads of them. -/
import Derived.Test.YtkdmcbacofafpaaDoorPrs6
import Derived.Test.YtkdmcbacofafpaaDoorBys
namespace Go.Proofs.YtkdmcbacofafpaaDoor.X
open Go Go.Proofs
set_option linter.unusedVariables false
set_option linter.unusedSimpArgs false
set_option maxRecDepth 10000

abbrev kb (b : UInt8) : Value := .int .u8 (b.toNat : Int)
structure Cel where
  kind : Int := 0
  at_ : Int := 0
  count : Int := 0
  kids : Int := 0
  byte : UInt8 := 0
  full : Bool := false
  val : Int := 0
  key : Bytes := []
  pairs : List Pr := []
/-- a cell's nine words -/
def encC (x : Cel × Value × Value) : List Value := [.int .i64 x.1.kind, .int .i64 x.1.at_, .int .i64 x.1.count, .int .i64 x.1.kids, kb x.1.byte, .bool x.1.full, .int .u64 x.1.val, x.2.1, x.2.2]
theorem encC_len (x : Cel × Value × Value) : (encC x).length = 9 := rfl
def zC : List Value := [.int .i64 0, .int .i64 0, .int .i64 0, .int .i64 0, .int .u8 0, .bool false, .int .u64 0, .slice none 0 0, .slice none 0 0]
/-- a key in a block of W's -/
def KSt (W : Nat → Prop) (H : Heap) (k : Value) (c : Bytes) : Prop := Bs H k c ∧ (c ≠ [] → W (sb k))
/-- a cell whose key and pairs stand in blocks of W's -/
def CelR (W : Nat → Prop) (H : Heap) (x : Cel × Value × Value) (c : Cel) : Prop := x.1 = c ∧ KSt W H x.2.1 c.key ∧ PsK (KSt W H) H x.2.2 c.pairs ∧ (c.pairs ≠ [] → W (sb x.2.2))
section celr
variable {W W' : Nat → Prop} {H H' : Heap} {x : Cel × Value × Value} {c : Cel}
theorem KSt.step {S : Nat → Prop} {k : Value} {c : Bytes} (h : KSt W H k c) (hk : Keep S H H') (hS : ∀ z, W z → ¬ S z) (hm : ∀ z, W z → W' z) : KSt W' H' k c := ⟨h.1.keep hk (fun hne => hS _ (h.2 hne)), fun hne => hm _ (h.2 hne)⟩
theorem CelR.step {S : Nat → Prop} (h : CelR W H x c) (hk : Keep S H H') (hS : ∀ z, W z → ¬ S z) (hm : ∀ z, W z → W' z) : CelR W' H' x c :=
  ⟨h.1, h.2.1.step hk hS hm, h.2.2.1.stepS (fun _ _ hb => hb.step hk hS hm) hk (fun hne => hS _ (h.2.2.2 hne)), fun hne => hm _ (h.2.2.2 hne)⟩
theorem CelR.oneC (h : CelR W H x c) : ∀ v ∈ encC x, oneC v = true := fun v hv => by
  have h1 := isSl_oneC h.2.1.1.sl
  have h2 := isSl_oneC h.2.2.1.sl
  simp only [encC, List.mem_cons, List.not_mem_nil, or_false] at hv
  rcases hv with rfl | rfl | rfl | rfl | rfl | rfl | rfl | rfl | rfl <;> first | rfl | assumption
end celr
/-- how many pairs a cell holds -/
def Cel.many (c : Cel) : Nat := c.pairs.length + (if c.full then 1 else 0)
def manys (l : List Cel) : Nat := (l.map Cel.many).sum
theorem manys_take {l : List Cel} {i : Nat} {c : Cel} (h : l[i]? = some c) : manys (l.take (i + 1)) = manys (l.take i) + c.many := by
  unfold manys
  rw [List.take_add_one, h]
  simp
theorem manys_le (l : List Cel) (i : Nat) : manys (l.take i) ≤ manys l := by
  unfold manys
  conv => rhs; rw [← List.take_append_drop i l]
  rw [List.map_append, List.sum_append]
  omega
/-- is a key too long? -/
def longs (l : List Pr) : Bool := l.any fun p => decide (65535 < p.1.length)
theorem longs_take {l : List Pr} {i : Nat} {p : Pr} (h : l[i]? = some p) : longs (l.take (i + 1)) = (longs (l.take i) || decide (65535 < p.1.length)) := by
  unfold longs
  rw [List.take_add_one, h]
  simp
theorem longs_of {l : List Pr} {p : Pr} (h : p ∈ l) (hp : 65535 < p.1.length) : longs l = true := List.any_eq_true.2 ⟨p, h, decide_eq_true hp⟩
theorem longs_not {l : List Pr} (h : longs l = false) : ∀ p ∈ l, p.1.length ≤ 65535 := fun p hp => by
  by_cases e : 65535 < p.1.length
  · rw [longs_of hp e] at h; cases h
  · omega
/-- what is read -/
structure RD where
  P : List Pr := []
  next : Nat := 0
  deep : Int := 0
  ok : Bool := false
structure OkS (c : Cel) : Prop where
  full : c.full = false
  val : c.val = 0
  one : 1 ≤ c.pairs.length
  most : c.pairs.length ≤ 8
  kids : c.kids = c.pairs.length
  count : c.count = c.pairs.length
  rise : rises c.pairs = true
  may : longs c.pairs = false
open Classical in
noncomputable def okS (c : Cel) : Bool := decide (OkS c)
theorem okS_yes {c : Cel} (h : OkS c) : okS c = true := by unfold okS; simp [h]
theorem okS_no {c : Cel} (h : ¬ OkS c) : okS c = false := by unfold okS; simp [h]
theorem okS_of {c : Cel} (h : okS c = true) : OkS c := by unfold okS at h; simpa using h
noncomputable def okB (c : Cel) (w : Bytes) : Bool := okS c && c.pairs.all fun p => begins p.1 w
/-- the children -/
def kidsB (rd : Nat → Bytes → RD) (l : List Cel) (w : Bytes) : Nat → RD → Int → Option RD
  | 0, r, _ => some r
  | m + 1, r, last => match l[r.next]? with
    | none => none
    | some d => if d.key.length = w.length + 1 ∧ last < ((d.key.getD w.length 0).toNat : Int) then
        (if (rd r.next (w ++ [d.key.getD w.length 0])).ok then
          kidsB rd l w m ⟨r.P ++ (rd r.next (w ++ [d.key.getD w.length 0])).P, (rd r.next (w ++ [d.key.getD w.length 0])).next, max r.deep (rd r.next (w ++ [d.key.getD w.length 0])).deep, true⟩ (d.key.getD w.length 0).toNat
        else none)
      else none
def beginB (c : Cel) (i : Nat) : RD := ⟨if c.full then [(c.key, c.val)] else [], i + 1, 0, true⟩
def endB (c : Cel) (r : RD) : RD := if c.count = r.P.length ∧ 4 < c.count ∧ c.key.length ≤ 65535 then { r with deep := IntKind.i64.wrap (r.deep + 1) } else {}
/-- a cell that may be a node's -/
def okN (c : Cel) : Prop := c.kind = 10 ∧ c.pairs = [] ∧ (c.full = true ∨ c.val = 0) ∧ 0 ≤ c.kids
instance (c : Cel) : Decidable (okN c) := inferInstanceAs (Decidable (_ ∧ _))
def okC (c : Cel) (w : Bytes) : Prop := c.key = w ∧ c.at_ = 0 ∧ c.byte = 0
instance (c : Cel) (w : Bytes) : Decidable (okC c w) := inferInstanceAs (Decidable (_ ∧ _))
def nodeB (rd : Nat → Bytes → RD) (l : List Cel) (c : Cel) (i : Nat) (w : Bytes) : RD :=
  match kidsB rd l w (min c.kids 257).toNat (beginB c i) (-1) with
  | none => {}
  | some r => endB c r
noncomputable def readB : Nat → List Cel → Nat → Bytes → RD
  | 0, _, _, _ => {}
  | f + 1, l, i, w => match l[i]? with
    | none => {}
    | some c => if okC c w then
        (if c.kind = 11 then ⟨c.pairs, i + 1, 1, okB c w⟩
        else if okN c then nodeB (readB f l) l c i w else {})
      else {}
/-- what was read is all that there is -/
def Held (l : List Cel) (i : Nat) (r : RD) : Prop := r.ok = true → i < r.next ∧ r.next ≤ l.length ∧ manys (l.take r.next) = manys (l.take i) + r.P.length
theorem kidsB_held {rd : Nat → Bytes → RD} {l : List Cel} {w : Bytes} (h : ∀ i v, Held l i (rd i v)) {i : Nat} : ∀ (m : Nat) {r r' : RD} {last : Int}, Held l i r → kidsB rd l w m r last = some r' → r.ok = true → Held l i r' ∧ r'.ok = true := by
  intro m
  induction m with
  | zero => intro r r' last hr e ho; injection e with e; subst e; exact ⟨hr, ho⟩
  | succ m ih =>
    intro r r' last hr e ho
    unfold kidsB at e
    cases hd : l[r.next]? with
    | none => rw [hd] at e; cases e
    | some d =>
      rw [hd] at e
      simp only at e
      split at e
      · split at e
        · rename_i hok
          refine ih (fun _ => ?_) e rfl
          have h1 := hr ho
          have h2 := h _ _ hok
          refine ⟨by show i < (rd _ _).next; omega, h2.2.1, ?_⟩
          show manys (l.take (rd _ _).next) = _ + (r.P ++ (rd _ _).P).length
          rw [h2.2.2, h1.2.2, List.length_append]
          omega
        · cases e
      · cases e
theorem readB_held : ∀ (f : Nat) (l : List Cel) (i : Nat) (w : Bytes), Held l i (readB f l i w) := by
  intro f
  induction f with
  | zero => intro l i w h; cases h
  | succ f ih =>
    intro l i w
    unfold readB
    cases hc : l[i]? with
    | none => intro h; cases h
    | some c =>
      have hil := (List.getElem?_eq_some_iff.1 hc).1
      have hm := manys_take hc
      have hcm : c.many = c.pairs.length + (if c.full then 1 else 0) := rfl
      simp only
      split
      · split
        · intro h
          have h : okB c w = true := h
          have hf : c.full = false := by
            unfold okB at h
            rw [Bool.and_eq_true] at h
            exact (okS_of h.1).full
          rw [hf] at hcm
          refine ⟨Nat.lt_succ_self i, hil, ?_⟩
          show manys (l.take (i + 1)) = _ + c.pairs.length
          rw [hm, hcm]
          rfl
        · split
          · rename_i hN
            have hb : Held l i (beginB c i) := fun _ => ⟨Nat.lt_succ_self i, hil, by
              show manys (l.take (i + 1)) = _ + (if c.full then [(c.key, c.val)] else []).length
              rw [hm, hcm, hN.2.1]
              cases c.full <;> rfl⟩
            unfold nodeB
            split
            · intro h; cases h
            · rename_i r hr
              have h1 := (kidsB_held (fun j v => ih l j v) _ hb hr rfl).1
              unfold endB
              split
              · exact h1
              · intro h; cases h
          · intro h; cases h
      · intro h; cases h
theorem readB_P (f : Nat) (l : List Cel) (i : Nat) (w : Bytes) : (readB f l i w).P.length ≤ manys l := by
  by_cases h : (readB f l i w).ok = true
  · have h1 := readB_held f l i w h
    have h2 := manys_le l (readB f l i w).next
    omega
  · cases f with
    | zero => exact Nat.zero_le _
    | succ f =>
      unfold readB at h ⊢
      cases hc : l[i]? with
      | none => exact Nat.zero_le _
      | some c =>
        have hm := manys_take hc
        have h2 := manys_le l (i + 1)
        have hcm : c.many = c.pairs.length + (if c.full then 1 else 0) := rfl
        rw [hc] at h
        simp only at h ⊢
        split
        · rename_i h3
          rw [if_pos h3] at h
          split
          · show c.pairs.length ≤ _; omega
          · rename_i h4
            rw [if_neg h4] at h
            split
            · rename_i h5
              rw [if_pos h5] at h
              unfold nodeB at h ⊢
              split
              · exact Nat.zero_le _
              · rename_i r hr
                rw [hr] at h
                simp only at h
                unfold endB at h ⊢
                split
                · rename_i h6
                  rw [if_pos h6] at h
                  have hb : Held l i (beginB c i) := fun _ => ⟨Nat.lt_succ_self i, (List.getElem?_eq_some_iff.1 hc).1, by
                    show manys (l.take (i + 1)) = _ + (if c.full then [(c.key, c.val)] else []).length
                    rw [hm, hcm, h5.2.1]
                    cases c.full <;> rfl⟩
                  exact absurd (kidsB_held (fun j v => readB_held f l j v) _ hb hr rfl).2 h
                · exact Nat.zero_le _
            · exact Nat.zero_le _
        · exact Nat.zero_le _
end Go.Proofs.YtkdmcbacofafpaaDoor.X
