/- Crit-bit trees of pairs that rise: their cells, and what is read of these. No program in it. -/
import Derived.Test.YtkdmcbacofafpaaDoorK11c
import Derived.Test.YtkdmcbacofafpaaDoorKrise
namespace Go.Proofs.YtkdmcbacofafpaaDoor.X
open Go
set_option linter.unusedVariables false
set_option linter.unusedSimpArgs false
set_option maxRecDepth 10000

theorem drop_head' {α : Type} {l m : List α} {i : Nat} {a : α} (h : l.drop i = a :: m) : l[i]? = some a ∧ l.drop (i + 1) = m := by
  have h1 : (l.drop i)[0]? = some a := by rw [h]; rfl
  rw [List.getElem?_drop, Nat.add_zero] at h1
  refine ⟨h1, ?_⟩
  rw [← List.drop_drop, h]
  rfl
theorem drop_more' {α : Type} {l a m : List α} {i n : Nat} (h : l.drop i = a ++ m) (hn : a.length = n) : l.drop (i + n) = m := by
  rw [← List.drop_drop, h, ← hn, List.drop_left]

inductive CT where
  | leaf (p : Pr)
  | node (at_ : Nat) (a b : CT)
namespace CT
def size : CT → Nat
  | leaf _ => 1
  | node _ a b => 1 + (a.size + b.size)
def pairs : CT → List Pr
  | leaf p => [p]
  | node _ a b => a.pairs ++ b.pairs
def deep : CT → Nat
  | leaf _ => 1
  | node _ a b => 1 + max a.deep b.deep
def cells : CT → List Cel
  | leaf p => [{ kind := 1, count := 1, val := p.2, key := p.1 }]
  | node at_ a b => { kind := 2, at_ := at_, kids := 2, count := ((a.pairs ++ b.pairs).length : Nat) } :: (a.cells ++ b.cells)
def Wf : CT → Int → Prop
  | leaf p, _ => p.1.length ≤ 65535
  | node at_ a b, above => above < at_ ∧ a.Wf at_ ∧ b.Wf at_ ∧ critOk at_ a.pairs b.pairs
theorem cells_len : ∀ t : CT, t.cells.length = t.size := by
  intro t
  induction t with
  | leaf p => rfl
  | node at_ a b iha ihb => simp only [cells, size, List.length_cons, List.length_append, iha, ihb]; omega
theorem size_pairs : ∀ t : CT, t.size + 1 = 2 * t.pairs.length := by
  intro t
  induction t with
  | leaf p => rfl
  | node at_ a b iha ihb => simp only [size, pairs, List.length_append]; omega
theorem rdC_cells : ∀ (t : CT) {above : Int} {f : Nat} {l : List Cel} {i : Nat} {rest : List Cel}, t.Wf above → l.drop i = t.cells ++ rest → l.length < i + f → rdC f l i above = some ⟨t.pairs, i + t.size, t.deep⟩ := by
  intro t
  induction t with
  | leaf p =>
    intro above f l i rest hW hd hf
    have hget := (drop_head' (hd : l.drop i = _ :: rest)).1
    have hlt := (List.getElem?_eq_some_iff.1 hget).1
    obtain ⟨f', rfl⟩ : ∃ f', f = f' + 1 := ⟨f - 1, by omega⟩
    rw [rdC_some hget, if_pos ⟨rfl, rfl, rfl, rfl, rfl, rfl, rfl, hW⟩]
    rfl
  | node at_ a b iha ihb =>
    intro above f l i rest hW hd hf
    obtain ⟨hget, hdr⟩ := drop_head' (show l.drop i = _ :: ((a.cells ++ b.cells) ++ rest) from hd)
    have hlt := (List.getElem?_eq_some_iff.1 hget).1
    obtain ⟨f', rfl⟩ : ∃ f', f = f' + 1 := ⟨f - 1, by omega⟩
    obtain ⟨h1, ha, hb, hc⟩ := hW
    rw [rdC_some hget, if_neg (fun h => by have := h.kind; cases this), if_pos (⟨rfl, h1, rfl, rfl, rfl, rfl, rfl, rfl⟩ : InnerC _ above)]
    rw [List.append_assoc] at hdr
    have e1 := iha ha hdr (f := f') (by omega)
    have e2 := ihb hb (drop_more' hdr (cells_len a)) (f := f') (by omega)
    unfold nodeC
    simp only [e1, e2]
    rw [if_pos ⟨by rw [List.length_append], hc⟩]
    show some _ = some (⟨a.pairs ++ b.pairs, i + (1 + (a.size + b.size)), 1 + max a.deep b.deep⟩ : PT)
    congr 2
    omega
end CT

/-! how keys that rise are parted by a bit -/
/-- a bit in which two keys differ first, the one ahead of the other -/
structure Dif (a b : Bytes) (d : Nat) : Prop where
  same : ∀ i : Nat, i < d → bitK a i = bitK b i
  zero : bitK a d = 0
  one : bitK b d = 1
theorem Dif.of {a b : Bytes} (h : cmpB a b = -1) : ∃ d : Nat, differ a b = (d : Int) ∧ Dif a b d := by
  have hne : a ≠ b := fun e => by rw [e, cmp_self] at h; cases h
  obtain ⟨d, h1, _, _, _, h2, h3, _⟩ := differ_spec hne
  rw [h] at h3
  have ha := bitK01 a d
  have hb := bitK01 b d
  exact ⟨d, h1, h2, by omega, by omega⟩
theorem Dif.uniq {a b : Bytes} {d e : Nat} (h : Dif a b d) (h' : Dif a b e) : d = e := by
  rcases Nat.lt_trichotomy d e with hl | hl | hl
  · have := h'.same d hl; have := h.zero; have := h.one; omega
  · exact hl
  · have := h.same e hl; have := h'.zero; have := h'.one; omega
theorem Dif.differ {a b : Bytes} {d : Nat} (h : Dif a b d) (hc : cmpB a b = -1) : differ a b = (d : Int) := by
  obtain ⟨e, h1, h2⟩ := Dif.of hc
  rw [h1, h2.uniq h]
/-- of three keys that rise: what the middle one has at the outer ones' bit -/
theorem Dif.mid {a b c : Bytes} {d : Nat} (h : Dif a c d) (hab : cmpB a b = -1 ∨ a = b) (hbc : cmpB b c = -1 ∨ b = c) : ∀ i : Nat, i < d → bitK a i = bitK b i := by
  rcases hab with hab | rfl
  · rcases hbc with hbc | rfl
    · obtain ⟨d1, _, h1⟩ := Dif.of hab
      obtain ⟨d2, _, h2⟩ := Dif.of hbc
      rcases Nat.lt_trichotomy d1 d2 with hl | hl | hl
      · have : Dif a c d1 := ⟨fun i hi => (h1.same i hi).trans (h2.same i (by omega)), h1.zero, by rw [← h2.same d1 hl]; exact h1.one⟩
        have := this.uniq h
        subst this
        exact h1.same
      · subst hl; have := h1.one; have := h2.zero; omega
      · have : Dif a c d2 := ⟨fun i hi => (h1.same i (by omega)).trans (h2.same i hi), by rw [h1.same d2 hl]; exact h2.zero, h2.one⟩
        have := this.uniq h
        subst this
        exact fun i hi => h1.same i (by omega)
    · obtain ⟨d1, _, h1⟩ := Dif.of hab
      have := h1.uniq h
      subst this
      exact h1.same
  · exact fun i _ => rfl
/-- keys that rise and are alike up to a bit: behind a one no nought -/
theorem bit_mono {a b : Bytes} {d : Nat} (hab : cmpB a b = -1) (hs : ∀ i : Nat, i < d → bitK a i = bitK b i) (h1 : bitK a d = 1) : bitK b d = 1 := by
  obtain ⟨e, _, h⟩ := Dif.of hab
  have := bitK01 b d
  rcases Nat.lt_trichotomy e d with hl | hl | hl
  · have := hs e hl; have := h.zero; have := h.one; omega
  · subst hl; exact h.one
  · rw [← h.same d hl]; exact h1
theorem tw_mem {α : Type} {q : α → Bool} {l : List α} {x : α} (h : x ∈ l.takeWhile q) : q x = true := by
  induction l with
  | nil => cases h
  | cons a l ih =>
    by_cases ha : q a = true
    · rw [List.takeWhile_cons_of_pos ha] at h
      rcases List.mem_cons.1 h with rfl | h
      · exact ha
      · exact ih h
    · rw [List.takeWhile_cons_of_neg ha] at h
      cases h
/-- how many have a nought at a bit, ahead of all others -/
def bitCut (d : Int) (l : List Pr) : Nat := (l.takeWhile fun p => decide (bitK p.1 d = 0)).length
theorem bitCut_le (d : Int) (l : List Pr) : bitCut d l ≤ l.length := (List.takeWhile_sublist _).length_le
theorem bitCut_zero {d : Int} {l : List Pr} {j : Nat} {p : Pr} (hj : j < bitCut d l) (hp : l[j]? = some p) : bitK p.1 d = 0 := by
  have h1 : (l.takeWhile fun p => decide (bitK p.1 d = 0))[j]? = some p := by
    have h2 := List.takeWhile_prefix (l := l) fun p => decide (bitK p.1 d = 0)
    obtain ⟨m, hm⟩ := h2
    rw [← hm, List.getElem?_append_left hj] at hp
    exact hp
  have := tw_mem (List.mem_of_getElem? h1)
  exact of_decide_eq_true this
theorem bitCut_end {d : Int} {l : List Pr} {p : Pr} (hp : l[bitCut d l]? = some p) : bitK p.1 d ≠ 0 := by
  unfold bitCut at hp
  induction l with
  | nil => cases hp
  | cons q l ih =>
    by_cases h : bitK q.1 d = 0
    · rw [List.takeWhile_cons_of_pos (by simpa using h)] at hp
      exact ih (by simpa using hp)
    · rw [List.takeWhile_cons_of_neg (by simpa using h)] at hp
      simp at hp
      rw [← hp]
      exact h

/-- the crit-bit tree of pairs -/
def firstK (l : List Pr) : Bytes := (l.headD ([], 0)).1
def lastK (l : List Pr) : Bytes := (l.getLastD ([], 0)).1
def critT : Nat → List Pr → CT
  | 0, _ => .leaf ([], 0)
  | _ + 1, [] => .leaf ([], 0)
  | _ + 1, [p] => .leaf p
  | f + 1, l => .node (differ (firstK l) (lastK l)).toNat (critT f (l.take (bitCut (differ (firstK l) (lastK l)) l))) (critT f (l.drop (bitCut (differ (firstK l) (lastK l)) l)))
structure CutC (l : List Pr) (d k : Nat) : Prop where
  diff : differ (firstK l) (lastK l) = (d : Int)
  cut : bitCut (differ (firstK l) (lastK l)) l = k
  pos : 0 < k
  lt : k < l.length
  bit : ∀ (j : Nat) (p : Pr), l[j]? = some p → bitK p.1 d = if j < k then 0 else 1
  same : ∀ p ∈ l, ∀ i : Nat, i < d → bitK (firstK l) i = bitK p.1 i
theorem cutC {l : List Pr} (hr : rises l = true) (h2 : 2 ≤ l.length) : ∃ d k, CutC l d k := by
  obtain ⟨p0, hp0⟩ : ∃ p, l[0]? = some p := ⟨_, List.getElem?_eq_getElem (by omega)⟩
  obtain ⟨pn, hpn⟩ : ∃ p, l[l.length - 1]? = some p := ⟨_, List.getElem?_eq_getElem (by omega)⟩
  have ef : firstK l = p0.1 := by unfold firstK; rw [List.headD_eq_head?_getD, List.head?_eq_getElem?, hp0]; rfl
  have el : lastK l = pn.1 := by unfold lastK; rw [List.getLastD_eq_getLast?, List.getLast?_eq_getElem?, hpn]; rfl
  have hlt : ∀ {i j : Nat} {p q : Pr}, i < j → l[i]? = some p → l[j]? = some q → cmpB p.1 q.1 = -1 := fun hij hp hq => rises_lt hr hij hp hq
  obtain ⟨d, hd, hD⟩ := Dif.of (hlt (by omega) hp0 hpn)
  have hsame : ∀ (j : Nat) (p : Pr), l[j]? = some p → ∀ i : Nat, i < d → bitK p0.1 i = bitK p.1 i := fun j p hp => by
    have hjl := (List.getElem?_eq_some_iff.1 hp).1
    refine hD.mid ?_ ?_
    · by_cases h : j = 0
      · subst h; rw [hp0] at hp; injection hp with hp; exact .inr (by rw [hp])
      · exact .inl (hlt (by omega) hp0 hp)
    · by_cases h : j = l.length - 1
      · subst h; rw [hpn] at hp; injection hp with hp; exact .inr (by rw [hp])
      · exact .inl (hlt (by omega) hp hpn)
  have hdf : differ (firstK l) (lastK l) = (d : Int) := by rw [ef, el]; exact hd
  obtain ⟨k, hk⟩ : ∃ k, k = bitCut (d : Int) l := ⟨_, rfl⟩
  have hkl := bitCut_le (d : Int) l
  have hk0 : 0 < k := by
    rcases Nat.eq_zero_or_pos k with h | h
    · exfalso
      have := bitCut_end (d := (d : Int)) (l := l) (p := p0) (by rw [← hk, h]; exact hp0)
      exact this hD.zero
    · exact h
  have hkn : k < l.length := by
    rcases Nat.lt_or_ge k l.length with h | h
    · exact h
    · exfalso
      have := bitCut_zero (d := (d : Int)) (l := l) (j := l.length - 1) (by omega) hpn
      have := hD.one
      omega
  refine ⟨d, k, hdf, by rw [hdf, hk], hk0, hkn, fun j p hp => ?_, fun p hp => ?_⟩
  · by_cases hj : j < k
    · rw [if_pos hj]
      exact bitCut_zero (l := l) (by omega) hp
    · rw [if_neg hj]
      obtain ⟨pk, hpk⟩ : ∃ p, l[k]? = some p := ⟨_, List.getElem?_eq_getElem hkn⟩
      have h1 : bitK pk.1 d = 1 := by
        have := bitCut_end (d := (d : Int)) (l := l) (p := pk) (by rw [← hk]; exact hpk)
        have := bitK01 pk.1 d
        omega
      by_cases e : j = k
      · subst e; rw [hpk] at hp; injection hp with hp; rw [← hp]; exact h1
      · exact bit_mono (hlt (by omega) hpk hp) (fun i hi => (hsame k pk hpk i hi).symm.trans (hsame j p hp i hi)) h1
  · obtain ⟨j, hj⟩ := List.mem_iff_getElem?.1 hp
    rw [ef]
    exact hsame j p hj
theorem critT_node {f : Nat} {l : List Pr} {d k : Nat} (h : CutC l d k) : critT (f + 1) l = .node d (critT f (l.take k)) (critT f (l.drop k)) := by
  have h1 := h.pos; have h2 := h.lt
  match l, h, h2 with
  | [], h, h2 => simp at h2
  | [p], h, h2 => simp at h2; omega
  | p :: q :: r, h, h2 =>
    show CT.node (differ (firstK (p :: q :: r)) (lastK (p :: q :: r))).toNat (critT f _) (critT f _) = _
    rw [h.cut, h.diff]
    rfl
theorem critT_one (f : Nat) (p : Pr) : critT (f + 1) [p] = .leaf p := rfl
theorem CutC.above {l : List Pr} {d k : Nat} (h : CutC l d k) (hr : rises l = true) {i j : Nat} {p q : Pr} (hij : i < j) (hp : l[i]? = some p) (hq : l[j]? = some q) (hs : i < k ↔ j < k) : (d : Int) < differ p.1 q.1 := by
  have hc := rises_lt hr hij hp hq
  obtain ⟨e, he, hD⟩ := Dif.of hc
  have hb1 := h.bit i p hp
  have hb2 := h.bit j q hq
  have hm1 := h.same p (List.mem_of_getElem? hp)
  have hm2 := h.same q (List.mem_of_getElem? hq)
  rw [he]
  rcases Nat.lt_trichotomy e d with hl | hl | hl
  · have := hm1 e hl; have := hm2 e hl; have := hD.zero; have := hD.one; omega
  · subst hl
    have h0 := hD.zero; have h1 := hD.one
    rw [h0] at hb1
    rw [h1] at hb2
    split at hb1 <;> split at hb2 <;> omega
  · omega
theorem critT_ok : ∀ (f : Nat) {l : List Pr}, rises l = true → l ≠ [] → l.length ≤ f → (∀ p ∈ l, p.1.length ≤ 65535) → (critT f l).pairs = l ∧ ∀ above : Int, (∀ (i j : Nat) (p q : Pr), i < j → l[i]? = some p → l[j]? = some q → above < differ p.1 q.1) → (critT f l).Wf above := by
  intro f
  induction f with
  | zero =>
    intro l _ hne hl _
    exact absurd (List.length_eq_zero_iff.1 (by omega)) hne
  | succ f ih =>
    intro l hr hne hl hm
    by_cases h2 : 2 ≤ l.length
    · obtain ⟨d, k, h⟩ := cutC hr h2
      have hp := h.pos; have hlt := h.lt
      rw [critT_node h]
      have la : (l.take k).length = k := by rw [List.length_take]; omega
      have lb : (l.drop k).length = l.length - k := List.length_drop
      obtain ⟨pa, wa⟩ := ih (l := l.take k) (rises_take hr k) (fun e => by rw [e] at la; simp at la; omega) (by omega) (fun p hp => hm p (List.mem_of_mem_take hp))
      obtain ⟨pb, wb⟩ := ih (l := l.drop k) (rises_drop hr k) (fun e => by rw [e] at lb; simp at lb; omega) (by omega) (fun p hp => hm p (List.mem_of_mem_drop hp))
      refine ⟨by show (critT f _).pairs ++ (critT f _).pairs = l; rw [pa, pb, List.take_append_drop], fun above hab => ?_⟩
      obtain ⟨p0, hp0⟩ : ∃ p, l[0]? = some p := ⟨_, List.getElem?_eq_getElem (by omega)⟩
      obtain ⟨pn, hpn⟩ : ∃ p, l[l.length - 1]? = some p := ⟨_, List.getElem?_eq_getElem (by omega)⟩
      have ef : firstK l = p0.1 := by unfold firstK; rw [List.headD_eq_head?_getD, List.head?_eq_getElem?, hp0]; rfl
      have el : lastK l = pn.1 := by unfold lastK; rw [List.getLastD_eq_getLast?, List.getLast?_eq_getElem?, hpn]; rfl
      refine ⟨?_, wa d ?_, wb d ?_, ?_⟩
      · have := hab 0 (l.length - 1) p0 pn (by omega) hp0 hpn
        rw [← ef, ← el, h.diff] at this
        exact this
      · intro i j p q hij hp' hq'
        have hj : j < k := by have := (List.getElem?_eq_some_iff.1 hq').1; omega
        rw [List.getElem?_take, if_pos (by omega)] at hp' hq'
        exact h.above hr hij hp' hq' ⟨fun _ => hj, fun _ => by omega⟩
      · intro i j p q hij hp' hq'
        rw [List.getElem?_drop] at hp' hq'
        exact h.above hr (by omega) hp' hq' ⟨fun e => by omega, fun e => by omega⟩
      · intro j p q hq hp'
        rw [pa, pb, List.take_append_drop] at hq hp'
        rw [pa, la]
        refine ⟨fun e => ?_, h.bit j p hp'⟩
        rw [hp0] at hq
        injection hq with hq
        subst hq
        by_cases hj : j = 0
        · subst hj
          rw [hp0] at hp'
          injection hp' with hp'
          subst hp'
          rw [differ_self] at e
          omega
        · have hc := rises_lt hr (by omega : 0 < j) hp0 hp'
          obtain ⟨e', he', hD⟩ := Dif.of hc
          rw [he'] at e
          have := h.same p (List.mem_of_getElem? hp') e' (by omega)
          rw [ef] at this
          have := hD.zero; have := hD.one
          omega
    · match l, hne, h2 with
      | [p], _, _ =>
        rw [critT_one]
        exact ⟨rfl, fun _ _ => hm p (by simp)⟩
      | p :: q :: r, _, h2 => exact absurd (by simp) h2
/-- cells of a crit-bit tree of pairs -/
def critOf (l : List Pr) : List Cel := if l = [] then [] else (critT l.length l).cells
theorem critOf_size {l : List Pr} (hr : rises l = true) (hne : l ≠ []) (hm : ∀ p ∈ l, p.1.length ≤ 65535) : (critOf l).length + 1 = 2 * l.length := by
  unfold critOf
  rw [if_neg hne, CT.cells_len, CT.size_pairs, (critT_ok l.length hr hne (Nat.le_refl _) hm).1]
theorem rdC_critOf {l : List Pr} (hr : rises l = true) (hne : l ≠ []) (hm : ∀ p ∈ l, p.1.length ≤ 65535) : rdC ((critOf l).length + 1) (critOf l) 0 (-1) = some ⟨l, (critOf l).length, (critT l.length l).deep⟩ := by
  obtain ⟨h1, h2⟩ := critT_ok l.length hr hne (Nat.le_refl _) hm
  have e : critOf l = (critT l.length l).cells := by unfold critOf; rw [if_neg hne]
  rw [e, CT.rdC_cells _ (h2 (-1) (fun i j p q hij hp hq => by
    obtain ⟨d, hd, _⟩ := Dif.of (rises_lt hr hij hp hq)
    omega)) (rest := []) (by simp) (by omega), h1, CT.cells_len, Nat.zero_add]
/-! other values -/
theorem firstK_map {g : Pr → Pr} (hg : ∀ p, (g p).1 = p.1) {l : List Pr} (hne : l ≠ []) : firstK (l.map g) = firstK l := by
  cases l with
  | nil => exact absurd rfl hne
  | cons p l => exact hg p
theorem lastK_map {g : Pr → Pr} (hg : ∀ p, (g p).1 = p.1) {l : List Pr} (hne : l ≠ []) : lastK (l.map g) = lastK l := by
  unfold lastK
  rw [List.getLastD_eq_getLast?, List.getLastD_eq_getLast?, List.getLast?_map]
  cases h : l.getLast? with
  | none => exact absurd (List.getLast?_eq_none_iff.1 h) hne
  | some p => exact hg p
theorem bitCut_map {g : Pr → Pr} (hg : ∀ p, (g p).1 = p.1) (d : Int) (l : List Pr) : bitCut d (l.map g) = bitCut d l := by
  unfold bitCut
  rw [List.takeWhile_map, List.length_map]
  congr 2
  funext p
  show decide (bitK (g p).1 d = 0) = _
  rw [hg]
theorem critT_map {g : Pr → Pr} (hg : ∀ p, (g p).1 = p.1) : ∀ (f : Nat) (l : List Pr), (critT f (l.map g)).size = (critT f l).size ∧ (critT f (l.map g)).deep = (critT f l).deep := by
  intro f
  induction f with
  | zero => intro l; exact ⟨rfl, rfl⟩
  | succ f ih =>
    intro l
    match l with
    | [] => exact ⟨rfl, rfl⟩
    | [p] => exact ⟨rfl, rfl⟩
    | p :: q :: r =>
      have hne : p :: q :: r ≠ [] := by simp
      have e : ∀ m : List Pr, (critT (f + 1) (p :: q :: m)) = .node (differ (firstK (p :: q :: m)) (lastK (p :: q :: m))).toNat (critT f ((p :: q :: m).take (bitCut (differ (firstK (p :: q :: m)) (lastK (p :: q :: m))) (p :: q :: m)))) (critT f ((p :: q :: m).drop (bitCut (differ (firstK (p :: q :: m)) (lastK (p :: q :: m))) (p :: q :: m)))) := fun m => rfl
      have e' : (critT (f + 1) ((p :: q :: r).map g)) = .node (differ (firstK ((p :: q :: r).map g)) (lastK ((p :: q :: r).map g))).toNat (critT f (((p :: q :: r).map g).take (bitCut (differ (firstK ((p :: q :: r).map g)) (lastK ((p :: q :: r).map g))) ((p :: q :: r).map g)))) (critT f (((p :: q :: r).map g).drop (bitCut (differ (firstK ((p :: q :: r).map g)) (lastK ((p :: q :: r).map g))) ((p :: q :: r).map g)))) := rfl
      rw [e', e, firstK_map hg hne, lastK_map hg hne, bitCut_map hg, ← List.map_take, ← List.map_drop]
      simp only [CT.size, CT.deep, ih, and_self]
theorem critOf_map {g : Pr → Pr} (hg : ∀ p, (g p).1 = p.1) (l : List Pr) : (critOf (l.map g)).length = (critOf l).length := by
  unfold critOf
  by_cases h : l = []
  · subst h; rfl
  · rw [if_neg h, if_neg (by simpa using h), CT.cells_len, CT.cells_len, List.length_map, (critT_map hg _ _).1]
end Go.Proofs.YtkdmcbacofafpaaDoor.X
