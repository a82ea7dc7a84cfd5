/- Pairs that rise, behind a way: how they are parted by the byte behind it. No program in it. -/
import Derived.Test.YtkdmcbacofafpaaDoorK11e
namespace Go.Proofs.YtkdmcbacofafpaaDoor.X
open Go
set_option linter.unusedVariables false
set_option linter.unusedSimpArgs false
set_option maxRecDepth 10000

/-- a key's byte at a place -/
def byK (n : Nat) (p : Pr) : UInt8 := p.1.getD n 0
def lowN (n : Nat) (b : UInt8) (l : List Pr) : Nat := (l.takeWhile fun p => decide (byK n p < b)).length
def eqN (n : Nat) (b : UInt8) (l : List Pr) : Nat := (l.takeWhile fun p => byK n p == b).length
def midB (n : Nat) (l : List Pr) : UInt8 := byK n (l.getD (l.length / 2) ([], 0))
/-- pairs that rise, all behind a way -/
structure Way (w : Bytes) (l : List Pr) : Prop where
  rise : rises l = true
  beg : ∀ p ∈ l, begins p.1 w = true
  may : ∀ p ∈ l, p.1.length ≤ 65535
def Long (n : Nat) (l : List Pr) : Prop := ∀ p ∈ l, n < p.1.length
section
variable {w : Bytes} {l : List Pr}
theorem Way.sub {l' : List Pr} (h : Way w l) (hs : List.Sublist l' l) : Way w l' := ⟨rises_pw.2 ((rises_pw.1 h.rise).sublist hs), fun p hp => h.beg p (hs.subset hp), fun p hp => h.may p (hs.subset hp)⟩
theorem Long.sub {n : Nat} {l' : List Pr} (h : Long n l) (hs : List.Sublist l' l) : Long n l' := fun p hp => h p (hs.subset hp)
theorem beg_more {k w : Bytes} (h : begins k w = true) (hl : w.length < k.length) : begins k (w ++ [k.getD w.length 0]) = true := by
  obtain ⟨m, rfl⟩ := begins_iff.1 h
  cases m with
  | nil => simp at hl
  | cons b m => exact begins_iff.2 ⟨m, by rw [List.getD_eq_getElem?_getD, List.getElem?_append_right (Nat.le_refl _)]; simp⟩
theorem beg_all {k w : Bytes} (h : begins k w = true) (hl : k.length = w.length) : k = w := by
  obtain ⟨m, rfl⟩ := begins_iff.1 h
  simp at hl
  rw [hl, List.append_nil]
theorem beg_le {k w : Bytes} (h : begins k w = true) : w.length ≤ k.length := by
  obtain ⟨m, rfl⟩ := begins_iff.1 h
  simp
theorem byte_mono {j k w : Bytes} (hj : begins j w = true) (hk : begins k w = true) (lj : w.length < j.length) (lk : w.length < k.length) (h : cmpB j k = -1) : j.getD w.length 0 ≤ k.getD w.length 0 := by
  obtain ⟨a, rfl⟩ := begins_iff.1 hj
  obtain ⟨b, rfl⟩ := begins_iff.1 hk
  rw [cmp_way] at h
  cases a with
  | nil => simp at lj
  | cons x a =>
    cases b with
    | nil => simp at lk
    | cons y b =>
      have e : ∀ (z : UInt8) (m : Bytes), (w ++ z :: m).getD w.length 0 = z := fun z m => by rw [List.getD_eq_getElem?_getD, List.getElem?_append_right (Nat.le_refl _)]; simp
      rw [e, e]
      rw [cmp_cons] at h
      split at h
      · rename_i h1; exact UInt8.le_of_lt h1
      · split at h
        · cases h
        · rename_i h1 h2; exact UInt8.not_lt.1 h2
theorem Way.mono (h : Way w l) (hl : Long w.length l) {i j : Nat} {p q : Pr} (hij : i ≤ j) (hp : l[i]? = some p) (hq : l[j]? = some q) : byK w.length p ≤ byK w.length q := by
  rcases Nat.lt_or_ge i j with hlt | hge
  · exact byte_mono (h.beg p (List.mem_of_getElem? hp)) (h.beg q (List.mem_of_getElem? hq)) (hl p (List.mem_of_getElem? hp)) (hl q (List.mem_of_getElem? hq)) (rises_lt h.rise hlt hp hq)
  · have : i = j := by omega
    subst this
    rw [hp] at hq
    injection hq with hq
    rw [hq]
    exact UInt8.le_refl _
theorem Way.down {b : UInt8} {n : Nat} (h : Way w l) (hn : n = w.length) (hl : Long n l) (hb : ∀ p ∈ l, byK n p = b) : Way (w ++ [b]) l := ⟨h.rise, fun p hp => by
  subst hn
  rw [← hb p hp]
  exact beg_more (h.beg p hp) (hl p hp), h.may⟩
end
theorem tw_pre {α : Type} (q : α → Bool) (l : List α) : l.take (l.takeWhile q).length = l.takeWhile q := by
  obtain ⟨m, hm⟩ := List.takeWhile_prefix (l := l) q
  generalize l.takeWhile q = a at hm
  subst hm
  exact List.take_left
theorem tw_end {α : Type} {q : α → Bool} {l : List α} {x : α} (h : l[(l.takeWhile q).length]? = some x) : q x = false := by
  induction l with
  | nil => cases h
  | cons a l ih =>
    by_cases ha : q a = true
    · rw [List.takeWhile_cons_of_pos ha] at h
      exact ih (by simpa using h)
    · rw [List.takeWhile_cons_of_neg ha] at h
      simp at h
      rw [← h]
      simpa using ha
theorem eqN_le (n : Nat) (b : UInt8) (l : List Pr) : eqN n b l ≤ l.length := (List.takeWhile_sublist _).length_le
theorem lowN_le (n : Nat) (b : UInt8) (l : List Pr) : lowN n b l ≤ l.length := (List.takeWhile_sublist _).length_le
theorem eqN_mem {n : Nat} {b : UInt8} {l : List Pr} {p : Pr} (h : p ∈ l.take (eqN n b l)) : byK n p = b := by
  unfold eqN at h
  rw [tw_pre] at h
  have := tw_mem h
  exact beq_iff_eq.1 this
theorem eqN_end {n : Nat} {b : UInt8} {l : List Pr} {p : Pr} (h : l[eqN n b l]? = some p) : byK n p ≠ b := fun e => by
  have := tw_end h
  rw [e] at this
  simp at this
theorem lowN_mem {n : Nat} {b : UInt8} {l : List Pr} {p : Pr} (h : p ∈ l.take (lowN n b l)) : byK n p < b := by
  unfold lowN at h
  rw [tw_pre] at h
  have := tw_mem h
  exact of_decide_eq_true this
theorem lowN_end {n : Nat} {b : UInt8} {l : List Pr} {p : Pr} (h : l[lowN n b l]? = some p) : ¬ byK n p < b := fun e => by
  have := tw_end h
  rw [decide_eq_true e] at this
  cases this
theorem eqN_pos {n : Nat} {p : Pr} {l : List Pr} : 0 < eqN n (byK n p) (p :: l) := by
  unfold eqN
  rw [List.takeWhile_cons_of_pos (by simp)]
  simp
theorem eqN_map {g : Pr → Pr} (hg : ∀ p, (g p).1 = p.1) (n : Nat) (b : UInt8) (l : List Pr) : eqN n b (l.map g) = eqN n b l := by
  unfold eqN
  rw [List.takeWhile_map, List.length_map]
  congr 2
  funext p
  show ((g p).1.getD n 0 == b) = _
  rw [hg]
  rfl
theorem lowN_map {g : Pr → Pr} (hg : ∀ p, (g p).1 = p.1) (n : Nat) (b : UInt8) (l : List Pr) : lowN n b (l.map g) = lowN n b l := by
  unfold lowN
  rw [List.takeWhile_map, List.length_map]
  congr 2
  funext p
  show decide ((g p).1.getD n 0 < b) = _
  rw [hg]
  rfl

/-! runs of one byte -/
def runsF : Nat → Nat → List Pr → List (List Pr)
  | 0, _, _ => []
  | _ + 1, _, [] => []
  | f + 1, n, p :: l => (p :: l).take (eqN n (byK n p) (p :: l)) :: runsF f n ((p :: l).drop (eqN n (byK n p) (p :: l)))
def runs (n : Nat) (l : List Pr) : List (List Pr) := runsF l.length n l
theorem runsF_nil (f n : Nat) : runsF f n [] = [] := by cases f <;> rfl
theorem runsF_any : ∀ (f g n : Nat) (l : List Pr), l.length ≤ f → l.length ≤ g → runsF f n l = runsF g n l := by
  intro f
  induction f with
  | zero =>
    intro g n l h1 h2
    have : l = [] := List.length_eq_zero_iff.1 (by omega)
    subst this
    rw [runsF_nil, runsF_nil]
  | succ f ih =>
    intro g n l h1 h2
    cases l with
    | nil => rw [runsF_nil, runsF_nil]
    | cons p l =>
      cases g with
      | zero => simp at h2
      | succ g =>
        show _ :: _ = _ :: _
        have hp := eqN_pos (n := n) (p := p) (l := l)
        have hl : ((p :: l).drop (eqN n (byK n p) (p :: l))).length ≤ l.length := by rw [List.length_drop, List.length_cons]; omega
        rw [ih g n _ (by simp at h1; omega) (by simp at h2; omega)]
theorem runs_nil (n : Nat) : runs n [] = [] := rfl
theorem runs_cons (n : Nat) (p : Pr) (l : List Pr) : runs n (p :: l) = (p :: l).take (eqN n (byK n p) (p :: l)) :: runs n ((p :: l).drop (eqN n (byK n p) (p :: l))) := by
  have hp := eqN_pos (n := n) (p := p) (l := l)
  show (p :: l).take _ :: runsF l.length n _ = _
  congr 1
  exact runsF_any _ _ _ _ (by rw [List.length_drop, List.length_cons]; omega) (Nat.le_refl _)
/-- what holds of all runs -/
structure RunsOk (w : Bytes) (l : List Pr) (gs : List (List Pr)) (last : Int) : Prop where
  flat : gs.flatten = l
  one : ∀ g ∈ gs, ∃ b : UInt8, last < (b.toNat : Int) ∧ g ≠ [] ∧ Way (w ++ [b]) g ∧ g.length ≤ l.length
  rise : gs.Pairwise fun g h => ∀ p ∈ g, ∀ q ∈ h, byK w.length p < byK w.length q
theorem runs_ok {w : Bytes} : ∀ (m : Nat) {l : List Pr} {last : Int}, l.length ≤ m → Way w l → Long w.length l → (∀ p ∈ l, last < ((byK w.length p).toNat : Int)) → RunsOk w l (runs w.length l) last := by
  intro m
  induction m with
  | zero =>
    intro l last hl hW hL hb
    have : l = [] := List.length_eq_zero_iff.1 (by omega)
    subst this
    exact ⟨rfl, (fun g hg => by cases hg), List.Pairwise.nil⟩
  | succ m ih =>
    intro l last hl hW hL hb
    cases l with
    | nil => exact ⟨rfl, (fun g hg => by cases hg), List.Pairwise.nil⟩
    | cons p l =>
      have hp := eqN_pos (n := w.length) (p := p) (l := l)
      rw [runs_cons]
      generalize hk : eqN w.length (byK w.length p) (p :: l) = k at hp
      have hsub1 := List.take_sublist k (p :: l)
      have hsub2 := List.drop_sublist k (p :: l)
      have hdl : ((p :: l).drop k).length ≤ m := by rw [List.length_drop]; simp at hl ⊢; omega
      have hin : ∀ q ∈ (p :: l).take k, byK w.length q = byK w.length p := fun q hq => eqN_mem (by rw [hk]; exact hq)
      have hup : ∀ q ∈ (p :: l).drop k, byK w.length p < byK w.length q := fun q hq => by
        obtain ⟨j, hj⟩ := List.mem_iff_getElem?.1 hq
        rw [List.getElem?_drop] at hj
        have hkl : k < (p :: l).length := by have := (List.getElem?_eq_some_iff.1 hj).1; omega
        obtain ⟨r, hr⟩ : ∃ r, (p :: l)[k]? = some r := ⟨_, List.getElem?_eq_getElem hkl⟩
        have h1 := hW.mono hL (Nat.zero_le k) (rfl : (p :: l)[0]? = some p) hr
        have h2 := hW.mono hL (Nat.le_add_right k j) hr hj
        have h3 : byK w.length r ≠ byK w.length p := eqN_end (by rw [hk]; exact hr)
        have h4 : byK w.length p < byK w.length r := by
          rcases UInt8.lt_or_eq_of_le h1 with h | h
          · exact h
          · exact absurd h.symm h3
        exact UInt8.lt_of_lt_of_le h4 h2
      have hlt : ∀ q ∈ (p :: l).drop k, ((byK w.length p).toNat : Int) < ((byK w.length q).toNat : Int) := fun q hq => by
        have := UInt8.lt_iff_toNat_lt.1 (hup q hq)
        omega
      have hi := ih hdl (hW.sub hsub2) (hL.sub hsub2) hlt
      have hpl := hb p (by simp)
      refine ⟨?_, fun g hg => ?_, ?_⟩
      · rw [List.flatten_cons, hi.flat, List.take_append_drop]
      · rcases List.mem_cons.1 hg with rfl | hg
        · refine ⟨byK w.length p, hpl, fun e => ?_, (hW.sub hsub1).down rfl (hL.sub hsub1) hin, hsub1.length_le⟩
          have := congrArg List.length e
          rw [List.length_take] at this
          simp at this
          omega
        · obtain ⟨b, h1, h2, h3, h4⟩ := hi.one g hg
          exact ⟨b, by omega, h2, h3, Nat.le_trans h4 hsub2.length_le⟩
      · refine List.pairwise_cons.2 ⟨fun h hh q hq r hr => ?_, hi.rise⟩
        rw [hin q hq]
        refine hup r ?_
        rw [← hi.flat]
        exact List.mem_flatten.2 ⟨h, hh, hr⟩
theorem runs_map {g : Pr → Pr} (hg : ∀ p, (g p).1 = p.1) (n : Nat) : ∀ (m : Nat) (l : List Pr), l.length ≤ m → runs n (l.map g) = (runs n l).map (List.map g) := by
  intro m
  induction m with
  | zero =>
    intro l hl
    have : l = [] := List.length_eq_zero_iff.1 (by omega)
    subst this
    rfl
  | succ m ih =>
    intro l hl
    cases l with
    | nil => rfl
    | cons p l =>
      have hp := eqN_pos (n := n) (p := p) (l := l)
      have e : byK n (g p) = byK n p := by unfold byK; rw [hg]
      have e2 := eqN_map hg n (byK n p) (p :: l)
      rw [List.map_cons] at e2 ⊢
      rw [runs_cons, runs_cons, List.map_cons, e, e2]
      rw [← List.map_cons, List.map_take, ← ih _ (by rw [List.length_drop]; simp at hl ⊢; omega), List.map_drop]
end Go.Proofs.YtkdmcbacofafpaaDoor.X
