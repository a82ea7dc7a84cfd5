/- What chapter 11 reads of cells: crit-bit, ternary, radix trees, burst tries. No program in it. -/
import Derived.Test.YtkdmcbacofafpaaDoorC11
namespace Go.Proofs.YtkdmcbacofafpaaDoor.X
open Go
set_option linter.unusedVariables false
set_option linter.unusedSimpArgs false
set_option maxRecDepth 10000
/-- what is read -/
structure PT where
  P : List Pr := []
  next : Nat := 0
  deep : Nat := 0
/-- cells whose numbers may be, whose keys are short -/
structure CelsOk (l : List Cel) : Prop where
  key : ∀ c ∈ l, c.key.length ≤ 1000
  pair : ∀ c ∈ l, ∀ p ∈ c.pairs, p.1.length ≤ 1000
  at_ : ∀ c ∈ l, -9223372036854775808 ≤ c.at_ ∧ c.at_ ≤ 9223372036854775807
  kids : ∀ c ∈ l, -9223372036854775808 ≤ c.kids ∧ c.kids ≤ 9223372036854775807
  len : l.length ≤ 100000
  many : manys l ≤ 1000000
/-- a leaf of a kind -/
structure Leaf (c : Cel) (kind : Int) : Prop where
  kind : c.kind = kind
  at_ : c.at_ = 0
  kids : c.kids = 0
  byte : c.byte = 0
  full : c.full = false
  pairs : c.pairs = []
  count : c.count = 1
  key : c.key.length ≤ 65535
structure InnerC (c : Cel) (above : Int) : Prop where
  kind : c.kind = 2
  at_ : above < c.at_
  kids : c.kids = 2
  byte : c.byte = 0
  full : c.full = false
  val : c.val = 0
  key : c.key = []
  pairs : c.pairs = []
/-- are the keys parted by a bit? -/
def critAt (at_ : Int) (n : Nat) (l : List Pr) (k : Nat) : Prop := ∀ p q, l[0]? = some q → l[k]? = some p → ¬ (0 ≤ differ q.1 p.1 ∧ differ q.1 p.1 < at_) ∧ bitK p.1 at_ = if k < n then 0 else 1
def critOk (at_ : Int) (a b : List Pr) : Prop := ∀ k, critAt at_ a.length (a ++ b) k
open Classical in
noncomputable def nodeC (rd : Nat → Option PT) (c : Cel) (i : Nat) : Option PT := match rd (i + 1) with
  | none => none
  | some a => match rd a.next with
    | none => none
    | some b => if c.count = ((a.P.length + b.P.length : Nat) : Int) ∧ critOk c.at_ a.P b.P then some ⟨a.P ++ b.P, b.next, 1 + max a.deep b.deep⟩ else none
open Classical in
noncomputable def rdC : Nat → List Cel → Nat → Int → Option PT
  | 0, _, _, _ => none
  | f + 1, l, i, above => match l[i]? with
    | none => none
    | some c =>
      if Leaf c 1 then some ⟨[(c.key, c.val)], i + 1, 1⟩
      else if InnerC c above then
        nodeC (fun n => rdC f l n c.at_) c i
      else none
open Classical in
theorem rdC_some {f : Nat} {l : List Cel} {i : Nat} {above : Int} {c : Cel} (hc : l[i]? = some c) : rdC (f + 1) l i above = if Leaf c 1 then some ⟨[(c.key, c.val)], i + 1, 1⟩ else if InnerC c above then nodeC (fun n => rdC f l n c.at_) c i else none := by
  conv => lhs; unfold rdC
  simp only [hc]
theorem rdC_none {f : Nat} {l : List Cel} {i : Nat} {above : Int} (hc : l[i]? = none) : rdC (f + 1) l i above = none := by
  unfold rdC
  simp only [hc]
/-- what holds of all that is read -/
structure Good (l : List Cel) (i : Nat) (x : PT) : Prop where
  lt : i < x.next
  le : x.next ≤ l.length
  one : 1 ≤ x.deep
  deep : x.deep + i ≤ x.next
theorem rdC_good : ∀ (f : Nat) {l : List Cel} {i : Nat} {above : Int} {x : PT}, rdC f l i above = some x → Good l i x ∧ x.P.length + i ≤ x.next ∧ x.P ≠ [] ∧ ∀ p ∈ x.P, p.1.length ≤ 65535 := by
  intro f
  induction f with
  | zero => intro l i above x h; cases h
  | succ f ih =>
    intro l i above x h
    unfold rdC at h
    cases hc : l[i]? with
    | none => rw [hc] at h; cases h
    | some c =>
      have hi := (List.getElem?_eq_some_iff.1 hc).1
      rw [hc] at h
      simp only at h
      split at h
      · rename_i hlf
        injection h with h
        subst h
        exact ⟨⟨Nat.lt_succ_self i, hi, Nat.le_refl 1, by show 1 + i ≤ i + 1; omega⟩, by show 1 + i ≤ i + 1; omega, by simp, fun p hp => by rw [List.mem_singleton.1 hp]; exact hlf.key⟩
      · split at h
        · unfold nodeC at h
          split at h
          · cases h
          · rename_i a ha
            split at h
            · cases h
            · rename_i b hb
              split at h
              · injection h with h
                subst h
                obtain ⟨ga, gpa, gna, gka⟩ := ih ha
                obtain ⟨gb, gpb, gnb, gkb⟩ := ih hb
                have h1 := ga.lt; have h2 := gb.lt; have h3 := gb.le; have h4 := ga.deep; have h5 := gb.deep; have h6 := ga.one
                refine ⟨⟨by show i < b.next; omega, h3, by show 1 ≤ 1 + max _ _; omega, by show 1 + max _ _ + i ≤ b.next; omega⟩, ?_, ?_, fun p hp => ?_⟩
                · show (a.P ++ b.P).length + i ≤ b.next
                  rw [List.length_append]; omega
                · simp [gna]
                · rcases List.mem_append.1 hp with hp | hp
                  · exact gka p hp
                  · exact gkb p hp
              · cases h
        · cases h

/-! ternary trees -/
structure TernC (c : Cel) (way : Bytes) (lo hi : Int) : Prop where
  kind : c.kind = 4
  lo : lo < (c.byte.toNat : Int)
  hi : (c.byte.toNat : Int) < hi
  at_ : c.at_ = way.length
  key : c.key = []
  pairs : c.pairs = []
  kids : 0 ≤ c.kids ∧ c.kids ≤ 7
  full : c.full = true ∨ (c.val = 0 ∧ c.kids / 2 % 2 = 1)
  way : way.length < 65535
def stepT (r : PT) : Option PT → Option PT
  | none => none
  | some x => some ⟨r.P ++ x.P, x.next, max r.deep x.deep⟩
def lowT (rd : Nat → Option PT) (c : Cel) (r : PT) : Option PT := if c.kids % 2 = 1 then stepT r (rd r.next) else some r
def ownT (c : Cel) (own : Bytes) (r : PT) : PT := if c.full then ⟨r.P ++ [(own, c.val)], r.next, r.deep⟩ else r
def midT (rd : Nat → Option PT) (c : Cel) (r : PT) : Option PT := if c.kids / 2 % 2 = 1 then stepT r (rd r.next) else some r
def topT (rd : Nat → Option PT) (c : Cel) (r : PT) : Option PT := if c.kids / 4 % 2 = 1 then stepT r (rd r.next) else some r
def endT (c : Cel) (r : PT) : Option PT := if c.count = (r.P.length : Int) then some ⟨r.P, r.next, r.deep + 1⟩ else none
open Classical in
noncomputable def rdT : Nat → List Cel → Nat → Bytes → Int → Int → Option PT
  | 0, _, _, _, _, _ => none
  | f + 1, l, i, way, lo, hi => match l[i]? with
    | none => none
    | some c => if TernC c way lo hi then
        (lowT (fun n => rdT f l n way lo c.byte.toNat) c ⟨[], i + 1, 0⟩).bind fun r1 =>
        (midT (fun n => rdT f l n (way ++ [c.byte]) (-1) 256) c (ownT c (way ++ [c.byte]) r1)).bind fun r3 =>
        (topT (fun n => rdT f l n way c.byte.toNat hi) c r3).bind fun r4 => endT c r4
      else none
open Classical in
theorem rdT_some {f : Nat} {l : List Cel} {i : Nat} {way : Bytes} {lo hi : Int} {c : Cel} (hc : l[i]? = some c) : rdT (f + 1) l i way lo hi = if TernC c way lo hi then
        (lowT (fun n => rdT f l n way lo c.byte.toNat) c ⟨[], i + 1, 0⟩).bind fun r1 =>
        (midT (fun n => rdT f l n (way ++ [c.byte]) (-1) 256) c (ownT c (way ++ [c.byte]) r1)).bind fun r3 =>
        (topT (fun n => rdT f l n way c.byte.toNat hi) c r3).bind fun r4 => endT c r4
      else none := by
  conv => lhs; unfold rdT
  simp only [hc]
theorem rdT_none {f : Nat} {l : List Cel} {i : Nat} {way : Bytes} {lo hi : Int} (hc : l[i]? = none) : rdT (f + 1) l i way lo hi = none := by
  unfold rdT
  simp only [hc]
/-- on the way through a node -/
structure Part (l : List Cel) (i k : Nat) (r : PT) : Prop where
  lt : i < r.next
  le : r.next ≤ l.length
  deep : r.deep + i + 1 ≤ r.next
  few : r.P.length + i + 1 ≤ r.next + k
theorem Part.step {l : List Cel} {i k : Nat} {r x r' : PT} (h : Part l i k r) (hx : Good l r.next x ∧ x.P.length + r.next ≤ x.next) (e : stepT r (some x) = some r') : Part l i k r' := by
  injection e with e
  subst e
  have h1 := h.lt; have h2 := hx.1.lt; have h3 := hx.1.le; have h4 := h.deep; have h5 := hx.1.deep; have h6 := h.few
  exact ⟨by show i < x.next; omega, h3, by show max _ _ + i + 1 ≤ x.next; omega, by show (r.P ++ x.P).length + i + 1 ≤ x.next + k; rw [List.length_append]; omega⟩
theorem rdT_good : ∀ (f : Nat) {l : List Cel} {i : Nat} {way : Bytes} {lo hi : Int} {x : PT}, rdT f l i way lo hi = some x → Good l i x ∧ x.P.length + i ≤ x.next := by
  intro f
  induction f with
  | zero => intro l i way lo hi x h; cases h
  | succ f ih =>
    intro l i way lo hi x h
    unfold rdT at h
    cases hc : l[i]? with
    | none => rw [hc] at h; cases h
    | some c =>
      have hi' := (List.getElem?_eq_some_iff.1 hc).1
      rw [hc] at h
      simp only at h
      split at h
      · have step : ∀ {k : Nat} {r r' : PT} {o : Option PT}, Part l i k r → (∀ y, o = some y → Good l r.next y ∧ y.P.length + r.next ≤ y.next) → stepT r o = some r' → Part l i k r' := fun hp ho e => by
          rename_i o
          cases o with
          | none => cases e
          | some y => exact hp.step (ho y rfl) e
        have p0 : Part l i 0 ⟨[], i + 1, 0⟩ := ⟨Nat.lt_succ_self i, hi', by show 0 + i + 1 ≤ i + 1; omega, by show 0 + i + 1 ≤ i + 1 + 0; omega⟩
        obtain ⟨r1, h1, h⟩ := Option.bind_eq_some_iff.1 h
        obtain ⟨r3, h3, h⟩ := Option.bind_eq_some_iff.1 h
        obtain ⟨r4, h4, h⟩ := Option.bind_eq_some_iff.1 h
        have p1 : Part l i 0 r1 := by
          unfold lowT at h1
          split at h1
          · exact step p0 (fun y hy => ih hy) h1
          · injection h1 with h1; subst h1; exact p0
        have p2 : Part l i 1 (ownT c (way ++ [c.byte]) r1) := by
          unfold ownT
          split
          · exact ⟨p1.lt, p1.le, p1.deep, by show (r1.P ++ [_]).length + i + 1 ≤ r1.next + 1; have := p1.few; simp; omega⟩
          · exact ⟨p1.lt, p1.le, p1.deep, by have := p1.few; omega⟩
        have p3 : Part l i 1 r3 := by
          unfold midT at h3
          split at h3
          · exact step p2 (fun y hy => ih hy) h3
          · injection h3 with h3; subst h3; exact p2
        have p4 : Part l i 1 r4 := by
          unfold topT at h4
          split at h4
          · exact step p3 (fun y hy => ih hy) h4
          · injection h4 with h4; subst h4; exact p3
        unfold endT at h
        split at h
        · injection h with h
          subst h
          exact ⟨⟨p4.lt, p4.le, by show 1 ≤ r4.deep + 1; omega, by show r4.deep + 1 + i ≤ r4.next; have := p4.deep; omega⟩, by show r4.P.length + i ≤ r4.next; have := p4.few; omega⟩
        · cases h
      · cases h
/-- a whole ternary tree -/
noncomputable def rdTs (l : List Cel) : Option PT := match l[0]? with
  | none => none
  | some c => if c.kind = 3 then
      (if c.at_ = 0 ∧ c.byte = 0 ∧ c.full = false ∧ c.kids = 0 ∧ c.count = 1 ∧ c.key = [] ∧ c.pairs = [] then
        (if l.length = 1 then some ⟨[([], c.val)], 1, 1⟩ else stepT ⟨[([], c.val)], 1, 1⟩ (rdT (l.length + 1) l 1 [] (-1) 256))
      else none)
    else rdT (l.length + 1) l 0 [] (-1) 256

/-! radix trees -/
def bandC (kind kids : Int) : Prop := (kind = 6 ∧ kids ≤ 4) ∨ (kind = 7 ∧ 4 ≤ kids ∧ kids ≤ 16) ∨ (kind = 8 ∧ 13 ≤ kids ∧ kids ≤ 48) ∨ (kind = 9 ∧ 41 ≤ kids ∧ kids ≤ 256)
structure NodeR (c : Cel) : Prop where
  at_ : c.at_ = 0
  byte : c.byte = 0
  pairs : c.pairs = []
  full : c.full = true ∨ c.val = 0
  two : 2 ≤ c.kids + (if c.full then 1 else 0)
  band : bandC c.kind c.kids
def kidsR (rd : Nat → Bytes → Option PT) (l : List Cel) (k : Bytes) : Nat → PT → Int → Option PT
  | 0, r, _ => some r
  | m + 1, r, last => match l[r.next]? with
    | none => none
    | some d => if k.length < d.key.length ∧ last < ((d.key.getD k.length 0).toNat : Int) then
        (match rd r.next (k ++ [d.key.getD k.length 0]) with
        | none => none
        | some x => kidsR rd l k m ⟨r.P ++ x.P, x.next, max r.deep x.deep⟩ (d.key.getD k.length 0).toNat)
      else none
def begR (c : Cel) (i : Nat) : PT := ⟨if c.full then [(c.key, c.val)] else [], i + 1, 0⟩
open Classical in
noncomputable def rdR : Nat → List Cel → Nat → Bytes → Option PT
  | 0, _, _, _ => none
  | f + 1, l, i, way => match l[i]? with
    | none => none
    | some c => if begins c.key way = true ∧ c.key.length ≤ 65535 then
        (if Leaf c 5 then some ⟨[(c.key, c.val)], i + 1, 1⟩
        else if NodeR c then (kidsR (rdR f l) l c.key c.kids.toNat (begR c i) (-1)).bind fun r => endT c r
        else none)
      else none
open Classical in
theorem rdR_some {f : Nat} {l : List Cel} {i : Nat} {way : Bytes} {c : Cel} (hc : l[i]? = some c) : rdR (f + 1) l i way = if begins c.key way = true ∧ c.key.length ≤ 65535 then
        (if Leaf c 5 then some ⟨[(c.key, c.val)], i + 1, 1⟩
        else if NodeR c then (kidsR (rdR f l) l c.key c.kids.toNat (begR c i) (-1)).bind fun r => endT c r
        else none)
      else none := by
  conv => lhs; unfold rdR
  simp only [hc]
theorem rdR_none {f : Nat} {l : List Cel} {i : Nat} {way : Bytes} (hc : l[i]? = none) : rdR (f + 1) l i way = none := by
  unfold rdR
  simp only [hc]
theorem kidsR_part {rd : Nat → Bytes → Option PT} {l : List Cel} {w : Bytes} {i : Nat} (h : ∀ n v x, rd n v = some x → Good l n x ∧ x.P.length + n ≤ x.next) : ∀ (m : Nat) {r r' : PT} {last : Int}, Part l i 1 r → kidsR rd l w m r last = some r' → Part l i 1 r' := by
  intro m
  induction m with
  | zero => intro r r' last hp e; injection e with e; subst e; exact hp
  | succ m ih =>
    intro r r' last hp e
    unfold kidsR at e
    cases hd : l[r.next]? with
    | none => rw [hd] at e; cases e
    | some d =>
      rw [hd] at e
      simp only at e
      split at e
      · split at e
        · cases e
        · rename_i x hx
          exact ih (hp.step (h _ _ x hx) rfl) e
      · cases e
theorem begR_part {l : List Cel} {i : Nat} {c : Cel} (hc : l[i]? = some c) : Part l i 1 (begR c i) := by
  have hi := (List.getElem?_eq_some_iff.1 hc).1
  refine ⟨Nat.lt_succ_self i, hi, by show 0 + i + 1 ≤ i + 1; omega, ?_⟩
  show (if c.full then [(c.key, c.val)] else []).length + i + 1 ≤ i + 1 + 1
  cases c.full <;> simp <;> omega
theorem rdR_good : ∀ (f : Nat) {l : List Cel} {i : Nat} {way : Bytes} {x : PT}, rdR f l i way = some x → Good l i x ∧ x.P.length + i ≤ x.next := by
  intro f
  induction f with
  | zero => intro l i way x h; cases h
  | succ f ih =>
    intro l i way x h
    unfold rdR at h
    cases hc : l[i]? with
    | none => rw [hc] at h; cases h
    | some c =>
      have hi := (List.getElem?_eq_some_iff.1 hc).1
      rw [hc] at h
      simp only at h
      split at h
      · split at h
        · injection h with h
          subst h
          exact ⟨⟨Nat.lt_succ_self i, hi, Nat.le_refl 1, by show 1 + i ≤ i + 1; omega⟩, by show 1 + i ≤ i + 1; omega⟩
        · split at h
          · obtain ⟨r, hr, h⟩ := Option.bind_eq_some_iff.1 h
            have p := kidsR_part (fun n v x hx => ih hx) _ (begR_part hc) hr
            unfold endT at h
            split at h
            · injection h with h
              subst h
              exact ⟨⟨p.lt, p.le, by show 1 ≤ r.deep + 1; omega, by show r.deep + 1 + i ≤ r.next; have := p.deep; omega⟩, by show r.P.length + i ≤ r.next; have := p.few; omega⟩
            · cases h
          · cases h
      · cases h

/-! burst tries -/
noncomputable def rdB (f : Nat) (l : List Cel) (i : Nat) (w : Bytes) : Option PT := if (readB f l i w).ok then some ⟨(readB f l i w).P, (readB f l i w).next, (readB f l i w).deep.toNat⟩ else none
/-- all -/
noncomputable def rdAll (tag : Int) (l : List Cel) : Option PT :=
  if tag < 1 ∨ 4 < tag then none
  else if l = [] then some {}
  else match (if tag = 1 then rdC (l.length + 1) l 0 (-1) else if tag = 2 then rdTs l else if tag = 3 then rdR (l.length + 1) l 0 [] else rdB (l.length + 1) l 0 []) with
    | none => none
    | some r => if r.next = l.length then some r else none
end Go.Proofs.YtkdmcbacofafpaaDoor.X
