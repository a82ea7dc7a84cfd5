/- Cells by their handles, in plain words. No program in it. -/
import Derived.Test.YtioaicleodjmpaaXlib
namespace Go.Proofs.Ytioaicleodjmpaa.X
open Go
set_option linter.unusedVariables false
set_option linter.unusedSimpArgs false

abbrev Ce := List Int × Bool
/-- an arena: how many cells may be; the cells, whether they are taken; what was given back -/
structure Ar where
  most : Int
  cs : List Ce
  back : List Nat
def liveA (a : Ar) : Int := a.cs.length - a.back.length
def takenA (l : List Ce) : Nat := (l.filter (·.2)).length
structure Ar.Wf (a : Ar) : Prop where
  most : 0 ≤ a.most ∧ a.most ≤ 1048576
  le : liveA a ≤ a.most
  back : ∀ h ∈ a.back, 1 ≤ h ∧ a.cs[h - 1]? = some ([], false)
  nod : a.back.Nodup
  cnt : takenA a.cs + a.back.length = a.cs.length
def hasA (a : Ar) (h : Nat) : Bool := match a.cs[h - 1]? with
  | some x => decide (1 ≤ h) && x.2
  | none => false
def wordsA (a : Ar) (h : Nat) : List Int := match a.cs[h - 1]? with
  | some x => x.1
  | none => []
def takeA (a : Ar) (ws : List Int) : Int × Int × Ar :=
  if ws.length > 64 then (0, 2, a)
  else if a.most - liveA a = 0 then (0, 4, a)
  else match a.back.getLast? with
    | some h => ((h : Nat), 0, ⟨a.most, a.cs.set (h - 1) (ws, true), a.back.dropLast⟩)
    | none => ((a.cs.length + 1 : Nat), 0, ⟨a.most, a.cs ++ [(ws, true)], []⟩)
def giveA (a : Ar) (h : Nat) : Int × Ar :=
  if hasA a h = false then (5, a) else (0, ⟨a.most, a.cs.set (h - 1) ([], false), a.back ++ [h]⟩)
/-- what is wrong with a word -/
def errA (a : Ar) (h : Nat) (i : Int) : Int := if hasA a h = false then 5 else if i < 0 ∨ i ≥ (wordsA a h).length then 2 else 0
def getA (a : Ar) (h : Nat) (i : Int) : Int := if errA a h i = 0 then ((wordsA a h)[i.toNat]?).getD 0 else 0
def setA (a : Ar) (h : Nat) (i w : Int) : Ar := if errA a h i = 0 then ⟨a.most, a.cs.set (h - 1) ((wordsA a h).set i.toNat w, true), a.back⟩ else a
def sizeA (a : Ar) (h : Nat) : Nat := if hasA a h then (wordsA a h).length else 0
/-- the handles of the cells that are taken, from a number on -/
def hdl : List Ce → Nat → List Nat
  | [], _ => []
  | x :: l, n => (if x.2 then [n] else []) ++ hdl l (n + 1)
def handlesA (a : Ar) : List Nat := hdl a.cs 1

theorem hasA_iff {a : Ar} {h : Nat} : hasA a h = true ↔ 1 ≤ h ∧ ∃ b, a.cs[h - 1]? = some (b, true) := by
  unfold hasA
  cases hx : a.cs[h - 1]? with
  | none => simp
  | some x =>
    obtain ⟨b, k⟩ := x
    simp
theorem backA_last {a : Ar} (w : a.Wf) {h : Nat} (hh : a.back.getLast? = some h) : 1 ≤ h ∧ a.cs[h - 1]? = some ([], false) ∧ h ≤ a.cs.length := by
  have hm := List.mem_of_getLast? hh
  obtain ⟨h1, h2⟩ := w.back h hm
  have := (List.getElem?_eq_some_iff.1 h2).1
  exact ⟨h1, h2, by omega⟩
theorem takenA_le (l : List Ce) : takenA l ≤ l.length := List.length_filter_le _ _
theorem takenA_append (l m : List Ce) : takenA (l ++ m) = takenA l + takenA m := by simp [takenA]
theorem takenA_set {l : List Ce} {i : Nat} {x : Ce} (h : l[i]? = some x) (y : Ce) : takenA (l.set i y) + (if x.2 then 1 else 0) = takenA l + (if y.2 then 1 else 0) := by
  induction l generalizing i with
  | nil => simp at h
  | cons z l ih =>
    cases i with
    | zero =>
      simp at h
      subst h
      simp only [List.set_cons_zero, takenA, List.filter_cons]
      cases z.2 <;> cases y.2 <;> simp
    | succ i =>
      simp at h
      have := ih h
      simp only [List.set_cons_succ, takenA, List.filter_cons] at this ⊢
      cases z.2 <;> simp at this ⊢ <;> omega
theorem Ar.Wf.live {a : Ar} (w : a.Wf) : 0 ≤ liveA a ∧ liveA a = takenA a.cs := by
  have := w.cnt
  unfold liveA
  omega
theorem takeA_wf {a : Ar} (w : a.Wf) (ws : List Int) : (takeA a ws).2.2.Wf := by
  unfold takeA
  split
  · exact w
  split
  · exact w
  rename_i h1 h2
  have hle := w.le
  have hc := w.cnt
  cases hb : a.back.getLast? with
  | none =>
    have hb0 : a.back = [] := List.getLast?_eq_none_iff.1 hb
    have hl : liveA a = a.cs.length := by unfold liveA; rw [hb0]; simp
    refine ⟨w.most, ?_, ?_, List.nodup_nil, ?_⟩
    · show ((a.cs ++ [(ws, true)]).length : Int) - ([] : List Nat).length ≤ a.most
      simp only [List.length_append, List.length_cons, List.length_nil]
      omega
    · intro h hh
      simp at hh
    · show takenA (a.cs ++ [(ws, true)]) + 0 = _
      rw [takenA_append]
      rw [hb0] at hc
      simp [takenA] at hc ⊢
      omega
  | some h =>
    obtain ⟨g1, g2, g3⟩ := backA_last w hb
    have hd : a.back = a.back.dropLast ++ [h] := by
      obtain ⟨ys, hy⟩ := List.getLast?_eq_some_iff.1 hb
      rw [hy]
      simp
    have hbl : a.back.length = a.back.dropLast.length + 1 := by rw [hd]; simp
    have hn := w.nod
    rw [hd, List.nodup_append] at hn
    have hset := takenA_set g2 (ws, true)
    simp only [Bool.false_eq_true, if_false, if_true] at hset
    have hl : liveA a = a.cs.length - a.back.length := rfl
    refine ⟨w.most, ?_, ?_, hn.1, ?_⟩
    · show ((a.cs.set (h - 1) (ws, true)).length : Int) - (a.back.dropLast.length : Nat) ≤ a.most
      rw [List.length_set]
      omega
    · intro g hg
      have hg' : g ∈ a.back.dropLast := hg
      have hne : g ≠ h := hn.2.2 g hg' h (by simp)
      obtain ⟨k1, k2⟩ := w.back g (by rw [hd]; simp [hg'])
      refine ⟨k1, ?_⟩
      show (a.cs.set (h - 1) (ws, true))[g - 1]? = _
      rw [List.getElem?_set_ne (by omega)]
      exact k2
    · show takenA (a.cs.set (h - 1) (ws, true)) + a.back.dropLast.length = (a.cs.set (h - 1) (ws, true)).length
      rw [List.length_set]
      omega
theorem giveA_wf {a : Ar} (w : a.Wf) (h : Nat) : (giveA a h).2.Wf := by
  unfold giveA
  split
  · exact w
  rename_i h1
  obtain ⟨g1, b, g2⟩ := hasA_iff.1 (show hasA a h = true by simpa using h1)
  have hlt := (List.getElem?_eq_some_iff.1 g2).1
  have hle := w.le
  have hc := w.cnt
  have hset := takenA_set g2 ([], false)
  simp only [Bool.false_eq_true, if_false, if_true] at hset
  have hl : liveA a = a.cs.length - a.back.length := rfl
  refine ⟨w.most, ?_, ?_, ?_, ?_⟩
  · show ((a.cs.set (h - 1) ([], false)).length : Int) - ((a.back ++ [h]).length : Nat) ≤ a.most
    rw [List.length_set, List.length_append]
    simp only [List.length_cons, List.length_nil]
    omega
  · intro g hg
    have hg' : g ∈ a.back ++ [h] := hg
    rcases List.mem_append.1 hg' with hg' | hg'
    · obtain ⟨k1, k2⟩ := w.back g hg'
      refine ⟨k1, ?_⟩
      show (a.cs.set (h - 1) ([], false))[g - 1]? = _
      rw [List.getElem?_set_ne (fun e => by rw [e, k2] at g2; simp at g2)]
      exact k2
    · have : g = h := by simpa using hg'
      subst this
      refine ⟨g1, ?_⟩
      show (a.cs.set (g - 1) ([], false))[g - 1]? = _
      rw [List.getElem?_set_self hlt]
  · show (a.back ++ [h]).Nodup
    rw [List.nodup_append]
    refine ⟨w.nod, by simp, fun x hx c hc => ?_⟩
    have : c = h := by simpa using hc
    subst this
    intro e
    subst e
    rw [(w.back x hx).2] at g2
    simp at g2
  · show takenA (a.cs.set (h - 1) ([], false)) + (a.back ++ [h]).length = (a.cs.set (h - 1) ([], false)).length
    rw [List.length_set, List.length_append]
    simp only [List.length_cons, List.length_nil]
    omega
theorem errA_zero {a : Ar} {h : Nat} {i : Int} (e : errA a h i = 0) : ∃ b, 1 ≤ h ∧ a.cs[h - 1]? = some (b, true) ∧ wordsA a h = b ∧ 0 ≤ i ∧ i < b.length := by
  unfold errA at e
  split at e
  · cases e
  split at e
  · cases e
  rename_i h1 h2
  obtain ⟨g1, b, g2⟩ := hasA_iff.1 (show hasA a h = true by simpa using h1)
  have hw : wordsA a h = b := by unfold wordsA; rw [g2]
  rw [hw] at h2
  exact ⟨b, g1, g2, hw, by omega, by omega⟩
theorem setA_wf {a : Ar} (w : a.Wf) (h : Nat) (i x : Int) : (setA a h i x).Wf := by
  unfold setA
  split
  · rename_i e
    obtain ⟨b, g1, g2, hw, _, _⟩ := errA_zero e
    have hset := takenA_set g2 ((wordsA a h).set i.toNat x, true)
    simp only [if_true] at hset
    have hle := w.le
    have hc := w.cnt
    have hl : liveA a = a.cs.length - a.back.length := rfl
    refine ⟨w.most, ?_, ?_, w.nod, ?_⟩
    · show ((a.cs.set _ _).length : Int) - (a.back.length : Nat) ≤ a.most
      rw [List.length_set]
      omega
    · intro g hg
      obtain ⟨k1, k2⟩ := w.back g hg
      refine ⟨k1, ?_⟩
      show (a.cs.set (h - 1) _)[g - 1]? = _
      rw [List.getElem?_set_ne (fun e => by rw [e, k2] at g2; simp at g2)]
      exact k2
    · show takenA (a.cs.set _ _) + a.back.length = (a.cs.set _ _).length
      rw [List.length_set]
      omega
  · exact w
theorem takeA_len (a : Ar) (ws : List Int) : (takeA a ws).2.2.cs.length ≤ a.cs.length + 1 ∧ (takeA a ws).2.2.back.length ≤ a.back.length ∧ (takeA a ws).2.2.most = a.most := by
  unfold takeA
  split
  · simp
  split
  · simp
  cases a.back.getLast? <;> simp
theorem giveA_len (a : Ar) (h : Nat) : (giveA a h).2.cs.length = a.cs.length ∧ (giveA a h).2.back.length ≤ a.back.length + 1 ∧ (giveA a h).2.most = a.most := by
  unfold giveA
  split <;> simp
theorem setA_len (a : Ar) (h : Nat) (i x : Int) : (setA a h i x).cs.length = a.cs.length ∧ (setA a h i x).back = a.back ∧ (setA a h i x).most = a.most := by
  unfold setA
  split <;> simp
end Go.Proofs.Ytioaicleodjmpaa.X
