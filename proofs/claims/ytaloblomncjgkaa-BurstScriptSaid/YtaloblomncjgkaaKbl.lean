/- How pairs that rise are parted by a byte. No program in it. -/
import Derived.Test.YtaloblomncjgkaaKbt
namespace Go.Proofs.Ytaloblomncjgkaa.X
open Go
set_option linter.unusedVariables false
set_option linter.unusedSimpArgs false
namespace BT
theorem cmp_two {w j k : Bytes} {b c : UInt8} (hj : begins j w = true) (hk : begins k w = true) (hb : j[w.length]? = some b) (hc : k[w.length]? = some c) (h : cmpB j k = -1) : b ≤ c := by
  by_cases hbc : b ≤ c
  · exact hbc
  · exfalso
    have h1 := cmp_part ((beg_step hk).1 hc) ((beg_step hj).1 hb) (UInt8.not_le.1 hbc)
    have h2 := cmp_anti k j
    omega
theorem Ok.head {w : Bytes} {p : Pr} {rest : List Pr} (h : Ok w (p :: rest)) :
    (∀ r ∈ rest, w.length < r.1.length) ∧ (p.1.length = w.length → p.1 = w ∧ fnd (p :: rest) w = some p.2) ∧ (p.1.length ≠ w.length → w.length < p.1.length ∧ fnd (p :: rest) w = none) := by
  obtain ⟨h1, h2⟩ := rises_cons.1 h.rise
  have hp := h.beg p (by simp)
  have hlong : ∀ r ∈ rest, w.length < r.1.length := fun r hr => by
    have hb := h.beg r (by simp [hr])
    have := beg_len hb
    have hne : r.1.length ≠ w.length := fun e => by
      have e1 := beg_nil hb (List.getElem?_eq_none (by omega))
      have := h1 r hr
      rw [e1] at this
      obtain ⟨m, hm⟩ := begins_iff.1 hp
      rw [hm] at this
      have h3 := cmp_anti w (w ++ m)
      have h4 := cmp_pre w m
      split at h4 <;> omega
    omega
  refine ⟨hlong, fun e => ?_, fun e => ?_⟩
  · have e1 := beg_nil hp (List.getElem?_eq_none (by omega))
    exact ⟨e1, by unfold fnd; rw [if_pos e1]⟩
  · have := beg_len hp
    refine ⟨by omega, fnd_none fun r hr e' => ?_⟩
    rcases List.mem_cons.1 hr with rfl | hr
    · rw [e'] at e; exact e rfl
    · have := hlong r hr; rw [e'] at this; omega
theorem grp_append (w : Bytes) (c : UInt8) (l m : List Pr) : grp w c (l ++ m) = grp w c l ++ grp w c m := List.filter_append _ _
theorem grp_all {w : Bytes} {c : UInt8} {l : List Pr} (h : ∀ p ∈ l, p.1[w.length]? = some c) : grp w c l = l := List.filter_eq_self.2 fun p hp => by simp [h p hp]
theorem grp_no {w : Bytes} {c : UInt8} {l : List Pr} (h : ∀ p ∈ l, p.1[w.length]? ≠ some c) : grp w c l = [] := List.filter_eq_nil_iff.2 fun p hp => by simp [h p hp]
theorem grp_nil {w : Bytes} {c : UInt8} {l : List Pr} (h : grp w c l = []) {p : Pr} (hp : p ∈ l) : p.1[w.length]? ≠ some c := fun e => by
  have := List.filter_eq_nil_iff.1 h p hp
  simp [e] at this
theorem grp_split (w : Bytes) (c : UInt8) (ps : List Pr) (i : Nat) : grp w c ps = grp w c (ps.take i) ++ grp w c (ps.drop i) := by
  rw [← grp_append, List.take_append_drop]
/-- no byte stands on both sides -/
def Parted (w : Bytes) (ps : List Pr) (i : Nat) : Prop := ∀ c, grp w c (ps.take i) = [] ∨ grp w c (ps.drop i) = []
structure Step (w : Bytes) (ps : List Pr) (i m : Nat) (c : UInt8) : Prop where
  none : grp w c (ps.take i) = []
  here : grp w c (ps.take (i + m)) = (ps.drop i).take m
  rest : grp w c (ps.drop (i + m)) = []
  other : ∀ d, d ≠ c → grp w d (ps.take (i + m)) = grp w d (ps.take i)
  parted : Parted w ps (i + m)
theorem parted_step {w : Bytes} {ps : List Pr} {i m : Nat} {c : UInt8} (hO : Ok w ps) (hlong : ∀ p ∈ ps.drop i, w.length < p.1.length) (hi : i + m ≤ ps.length) (hm : 0 < m)
    (hall : ∀ j, j < m → ∀ p, ps[i + j]? = some p → p.1[w.length]? = some c) (hend : ∀ p, ps[i + m]? = some p → p.1[w.length]? ≠ some c) (hp : Parted w ps i) : Step w ps i m c := by
  obtain ⟨p0, hp0⟩ : ∃ p, ps[i]? = some p := ⟨_, List.getElem?_eq_getElem (by omega)⟩
  have hb0 := hall 0 hm p0 hp0
  have hmem0 : p0 ∈ ps.drop i := List.mem_of_getElem? (i := 0) (by rw [List.getElem?_drop]; exact hp0)
  have h1 : grp w c (ps.take i) = [] := (hp c).resolve_right fun e => grp_nil e hmem0 hb0
  have htk : ps.take (i + m) = ps.take i ++ (ps.drop i).take m := List.take_add
  have hin : ∀ p ∈ (ps.drop i).take m, p.1[w.length]? = some c := fun p hp => by
    obtain ⟨j, hj⟩ := List.getElem?_of_mem hp
    have hjm : j < m := by have := (List.getElem?_eq_some_iff.1 hj).1; simp at this; omega
    rw [List.getElem?_take, if_pos hjm, List.getElem?_drop] at hj
    exact hall j hjm p hj
  have h2 : grp w c (ps.take (i + m)) = (ps.drop i).take m := by rw [htk, grp_append, h1, grp_all hin]; rfl
  have h3 : grp w c (ps.drop (i + m)) = [] := grp_no fun p hp' e => by
    obtain ⟨j, hj⟩ := List.getElem?_of_mem hp'
    rw [List.getElem?_drop] at hj
    have hjl := (List.getElem?_eq_some_iff.1 hj).1
    obtain ⟨p1, hp1⟩ : ∃ p, ps[i + m]? = some p := ⟨_, List.getElem?_eq_getElem (by omega)⟩
    have hm1 : p1 ∈ ps.drop i := List.mem_of_getElem? (i := m) (by rw [List.getElem?_drop]; exact hp1)
    have hl1 := hlong p1 hm1
    obtain ⟨d, hd⟩ : ∃ d, p1.1[w.length]? = some d := ⟨_, List.getElem?_eq_getElem hl1⟩
    have hpw := rises_pw.1 hO.rise
    have lt_of : ∀ {a b : Nat} {x y : Pr}, a < b → ps[a]? = some x → ps[b]? = some y → cmpB x.1 y.1 = -1 := fun {a b x y} hab hx hy => rises_lt hO.rise hab hx hy
    have hcd : c ≤ d := cmp_two (hO.beg p0 (List.mem_of_getElem? hp0)) (hO.beg p1 (List.mem_of_getElem? hp1)) hb0 hd (lt_of (by omega) hp0 hp1)
    have hne : d ≠ c := fun e' => hend p1 hp1 (by rw [hd, e'])
    by_cases hj0 : j = 0
    · subst hj0
      rw [Nat.add_zero] at hj
      exact hend p hj e
    · have hdc : d ≤ c := cmp_two (hO.beg p1 (List.mem_of_getElem? hp1)) (hO.beg p (List.mem_of_getElem? hj)) hd e (lt_of (by omega) hp1 hj)
      exact hne (UInt8.le_antisymm hdc hcd)
  have h4 : ∀ d, d ≠ c → grp w d (ps.take (i + m)) = grp w d (ps.take i) := fun d hd => by
    rw [htk, grp_append, grp_no (l := (ps.drop i).take m) fun p hp' e => by rw [hin p hp'] at e; cases e; exact hd rfl, List.append_nil]
  refine ⟨h1, h2, h3, h4, fun d => ?_⟩
  by_cases hd : d = c
  · subst hd; exact .inr h3
  · rcases hp d with h | h
    · exact .inl (by rw [h4 d hd]; exact h)
    · refine .inr (grp_no fun p hp' e => grp_nil h (p := p) ?_ e)
      rw [← List.drop_drop] at hp'
      exact List.mem_of_mem_drop hp'
end BT
end Go.Proofs.Ytaloblomncjgkaa.X
