/- Strings of bytes by their handles, in plain words. No program in it. -/
import Derived.Test.YtjknjlofkecflaaXlib
namespace Go.Proofs.Ytjknjlofkecflaa.X
open Go
set_option linter.unusedVariables false
set_option linter.unusedSimpArgs false

abbrev Tx := List UInt8 × Bool
/-- a pool: how many bytes may be, are; the strings, whether they are kept; what was given back -/
structure Pl where
  most : Int
  used : Int
  tx : List Tx
  back : List Nat
def txSum (l : List Tx) : Int := (l.map fun x => (x.1.length : Int)).sum
structure Pl.Wf (p : Pl) : Prop where
  most : 0 ≤ p.most ∧ p.most ≤ 16777216
  used : p.used = txSum p.tx
  le : p.used ≤ p.most
  back : ∀ h ∈ p.back, 1 ≤ h ∧ p.tx[h - 1]? = some ([], false)
  nod : p.back.Nodup
def hasP (p : Pl) (h : Nat) : Bool := match p.tx[h - 1]? with
  | some x => decide (1 ≤ h) && x.2
  | none => false
def strP (p : Pl) (h : Nat) : List UInt8 := match p.tx[h - 1]? with
  | some x => x.1
  | none => []
def getP (p : Pl) (h : Nat) : List UInt8 := if hasP p h then strP p h else []
def putP (p : Pl) (l : List UInt8) : Int × Int × Pl :=
  if (l.length : Int) > p.most - p.used then (0, 4, p)
  else match p.back.getLast? with
    | some h => ((h : Nat), 0, ⟨p.most, p.used + l.length, p.tx.set (h - 1) (l, true), p.back.dropLast⟩)
    | none => ((p.tx.length + 1 : Nat), 0, ⟨p.most, p.used + l.length, p.tx ++ [(l, true)], []⟩)
def cutP (p : Pl) (h : Nat) (n : Int) : Int × Pl :=
  if hasP p h = false then (5, p)
  else if n < 0 ∨ n > (strP p h).length then (2, p)
  else (0, ⟨p.most, p.used - n, p.tx.set (h - 1) ((strP p h).drop n.toNat, true), p.back⟩)
def dropP (p : Pl) (h : Nat) : Int × Pl :=
  if hasP p h = false then (5, p)
  else (0, ⟨p.most, p.used - (strP p h).length, p.tx.set (h - 1) ([], false), p.back ++ [h]⟩)
def liveP (p : Pl) : Int := p.tx.length - p.back.length

theorem txSum_nonneg (l : List Tx) : 0 ≤ txSum l := by
  unfold txSum
  induction l with
  | nil => simp
  | cons x l ih => simp only [List.map_cons, List.sum_cons]; omega
theorem txSum_append (l m : List Tx) : txSum (l ++ m) = txSum l + txSum m := by simp [txSum]
theorem txSum_cons (x : Tx) (l : List Tx) : txSum (x :: l) = x.1.length + txSum l := by simp [txSum]
theorem txSum_set {l : List Tx} {i : Nat} {x : Tx} (h : l[i]? = some x) (y : Tx) : txSum (l.set i y) = txSum l - x.1.length + y.1.length := by
  induction l generalizing i with
  | nil => simp at h
  | cons z l ih =>
    cases i with
    | zero => simp at h; subst h; simp only [List.set_cons_zero, txSum_cons]; omega
    | succ i => simp at h; simp only [List.set_cons_succ, txSum_cons, ih h]; omega
theorem txSum_le {l : List Tx} {i : Nat} {x : Tx} (h : l[i]? = some x) : (x.1.length : Int) ≤ txSum l := by
  induction l generalizing i with
  | nil => simp at h
  | cons z l ih =>
    rw [txSum_cons]
    cases i with
    | zero => simp at h; subst h; have := txSum_nonneg l; omega
    | succ i => simp at h; have := ih h; omega
theorem hasP_iff {p : Pl} {h : Nat} : hasP p h = true ↔ 1 ≤ h ∧ ∃ b, p.tx[h - 1]? = some (b, true) := by
  unfold hasP
  cases hx : p.tx[h - 1]? with
  | none => simp
  | some x =>
    obtain ⟨b, k⟩ := x
    simp
theorem Pl.Wf.used_le {p : Pl} (w : p.Wf) : 0 ≤ p.used ∧ p.used ≤ 16777216 := by
  have := txSum_nonneg p.tx
  have := w.used
  have := w.le
  have := w.most
  omega
theorem back_last {p : Pl} (w : p.Wf) {h : Nat} (hh : p.back.getLast? = some h) : 1 ≤ h ∧ p.tx[h - 1]? = some ([], false) ∧ h ≤ p.tx.length := by
  have hm := List.mem_of_getLast? hh
  obtain ⟨h1, h2⟩ := w.back h hm
  have := (List.getElem?_eq_some_iff.1 h2).1
  exact ⟨h1, h2, by omega⟩
theorem putP_wf {p : Pl} (w : p.Wf) (l : List UInt8) : (putP p l).2.2.Wf := by
  unfold putP
  split
  · exact w
  · rename_i hle
    have hm := w.most
    have hu := w.used
    cases hb : p.back.getLast? with
    | none =>
      refine ⟨hm, ?_, ?_, ?_, List.nodup_nil⟩
      · show p.used + (l.length : Int) = txSum (p.tx ++ [(l, true)])
        rw [txSum_append, hu]
        simp [txSum]
      · show p.used + (l.length : Int) ≤ p.most
        omega
      · intro h hh
        simp at hh
    | some h =>
      obtain ⟨h1, h2, h3⟩ := back_last w hb
      have hd : p.back = p.back.dropLast ++ [h] := by
        obtain ⟨ys, hy⟩ := List.getLast?_eq_some_iff.1 hb
        rw [hy]
        simp
      have hn := w.nod
      rw [hd, List.nodup_append] at hn
      refine ⟨hm, ?_, ?_, ?_, hn.1⟩
      · show p.used + (l.length : Int) = txSum (p.tx.set (h - 1) (l, true))
        rw [txSum_set h2, hu]
        simp
      · show p.used + (l.length : Int) ≤ p.most
        omega
      · intro g hg
        have hg' : g ∈ p.back.dropLast := hg
        have hne : g ≠ h := hn.2.2 g hg' h (by simp)
        obtain ⟨g1, g2⟩ := w.back g (by rw [hd]; simp [hg'])
        refine ⟨g1, ?_⟩
        show (p.tx.set (h - 1) (l, true))[g - 1]? = _
        rw [List.getElem?_set_ne (by omega)]
        exact g2
theorem cutP_wf {p : Pl} (w : p.Wf) (h : Nat) (n : Int) : (cutP p h n).2.Wf := by
  unfold cutP
  split
  · exact w
  · split
    · exact w
    · rename_i h1 h2
      have h1' : hasP p h = true := by simpa using h1
      obtain ⟨g1, b, g2⟩ := hasP_iff.1 h1'
      have hs : strP p h = b := by unfold strP; rw [g2]
      have hm := w.most
      have hu := w.used
      have hle := w.le
      rw [hs] at h2 ⊢
      have hlen : ((b.drop n.toNat).length : Int) = b.length - n := by rw [List.length_drop]; omega
      refine ⟨hm, ?_, ?_, ?_, w.nod⟩
      · show p.used - n = txSum (p.tx.set (h - 1) (b.drop n.toNat, true))
        rw [txSum_set g2, hu, hlen]
        simp only
        omega
      · show p.used - n ≤ p.most
        omega
      · intro g hg
        obtain ⟨k1, k2⟩ := w.back g hg
        refine ⟨k1, ?_⟩
        show (p.tx.set (h - 1) (b.drop n.toNat, true))[g - 1]? = _
        rw [List.getElem?_set_ne (fun e => by rw [e, k2] at g2; simp at g2)]
        exact k2
theorem dropP_wf {p : Pl} (w : p.Wf) (h : Nat) : (dropP p h).2.Wf := by
  unfold dropP
  split
  · exact w
  · rename_i h1
    have h1' : hasP p h = true := by simpa using h1
    obtain ⟨g1, b, g2⟩ := hasP_iff.1 h1'
    have hs : strP p h = b := by unfold strP; rw [g2]
    have hm := w.most
    have hu := w.used
    have hle := w.le
    have hlt := (List.getElem?_eq_some_iff.1 g2).1
    rw [hs]
    refine ⟨hm, ?_, ?_, ?_, ?_⟩
    · show p.used - (b.length : Int) = txSum (p.tx.set (h - 1) ([], false))
      rw [txSum_set g2, hu]
      simp
    · show p.used - (b.length : Int) ≤ p.most
      omega
    · intro g hg
      have hg' : g ∈ p.back ++ [h] := hg
      rcases List.mem_append.1 hg' with hg' | hg'
      · obtain ⟨k1, k2⟩ := w.back g hg'
        refine ⟨k1, ?_⟩
        show (p.tx.set (h - 1) ([], false))[g - 1]? = _
        rw [List.getElem?_set_ne (fun e => by rw [e, k2] at g2; simp at g2)]
        exact k2
      · have : g = h := by simpa using hg'
        subst this
        refine ⟨g1, ?_⟩
        show (p.tx.set (g - 1) ([], false))[g - 1]? = _
        rw [List.getElem?_set_self hlt]
    · show (p.back ++ [h]).Nodup
      rw [List.nodup_append]
      refine ⟨w.nod, by simp, fun a ha c hc => ?_⟩
      have : c = h := by simpa using hc
      subst this
      intro e
      subst e
      rw [(w.back a ha).2] at g2
      simp at g2
theorem putP_len (p : Pl) (l : List UInt8) : (putP p l).2.2.tx.length ≤ p.tx.length + 1 := by
  unfold putP
  split
  · simp
  · cases p.back.getLast? <;> simp
theorem cutP_len (p : Pl) (h : Nat) (n : Int) : (cutP p h n).2.tx.length = p.tx.length := by
  unfold cutP
  split
  · rfl
  · split <;> simp
theorem dropP_len (p : Pl) (h : Nat) : (dropP p h).2.tx.length = p.tx.length := by
  unfold dropP
  split
  · rfl
  · simp
end Go.Proofs.Ytjknjlofkecflaa.X
