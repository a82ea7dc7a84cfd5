/- Burst tries, in plain words: what is put, what is dropped, how many cells. No program in it. -/
import Derived.Test.YtaloblomncjgkaaKmp
import Derived.Test.YtaloblomncjgkaaXmap
namespace Go.Proofs.Ytaloblomncjgkaa.X
open Go
set_option linter.unusedVariables false
set_option linter.unusedSimpArgs false
set_option maxRecDepth 10000
attribute [local irreducible] allB

inductive BT where
  | nil
  | shelf (ps : List Pr)
  | node (own : Option Int) (kids : UInt8 → BT)
namespace BT
def size : BT → Nat
  | nil => 0
  | shelf _ => 1
  | node _ kids => 1 + sumB fun b => (kids b).size
def count : BT → Nat
  | nil => 0
  | shelf ps => ps.length
  | node own kids => (if own.isSome then 1 else 0) + sumB fun b => (kids b).count
def ownP (own : Option Int) (w : Bytes) : List Pr := match own with
  | some v => [(w, v)]
  | none => []
def pairs : BT → Bytes → List Pr
  | nil, _ => []
  | shelf ps, _ => ps
  | node own kids, w => ownP own w ++ allB.flatMap fun b => (kids b).pairs (w ++ [b])
/-- what a key has -/
def look : BT → Bytes → Bytes → Option Int
  | nil, _, _ => none
  | shelf ps, _, q => fnd ps q
  | node own kids, w, q => match q[w.length]? with
    | none => own
    | some c => (kids c).look (w ++ [c]) q
/-- the pairs of a byte -/
def grp (w : Bytes) (b : UInt8) (ps : List Pr) : List Pr := ps.filter fun p => p.1[w.length]? == some b
def bld : Nat → Bytes → List Pr → BT
  | 0, _, ps => shelf ps
  | n + 1, w, ps => if ps.length ≤ 8 then shelf ps else node (fnd ps w) fun b => if grp w b ps = [] then nil else bld n (w ++ [b]) (grp w b ps)
def built (w : Bytes) (ps : List Pr) : BT := bld (70000 - w.length) w ps
theorem built_few {w : Bytes} {ps : List Pr} (h : ps.length ≤ 8) : built w ps = shelf ps := by
  unfold built
  cases 70000 - w.length with
  | zero => rfl
  | succ n => unfold bld; rw [if_pos h]
theorem built_node {w : Bytes} {ps : List Pr} (h : ¬ ps.length ≤ 8) (hw : w.length < 70000) : built w ps = node (fnd ps w) fun b => if grp w b ps = [] then nil else built (w ++ [b]) (grp w b ps) := by
  unfold built
  obtain ⟨n, hn⟩ : ∃ n, 70000 - w.length = n + 1 := ⟨70000 - w.length - 1, by omega⟩
  rw [hn]
  conv => lhs; unfold bld
  rw [if_neg h]
  congr 1
  funext b
  rw [List.length_append, show 70000 - (w.length + [b].length) = n by simp; omega]
def put : BT → Bytes → Pr → BT
  | nil, _, p => shelf [p]
  | shelf ps, w, p => if there ps p.1 = true then shelf (putM ps p.1 p.2) else built w (putM ps p.1 p.2)
  | node own kids, w, p => match p.1[w.length]? with
    | none => node (some p.2) kids
    | some c => node own (setF kids c ((kids c).put (w ++ [c]) p))
def fewer (w : Bytes) (t : BT) : BT := if t.count ≤ 4 then shelf (t.pairs w) else t
def drop : BT → Bytes → Bytes → BT
  | nil, _, _ => nil
  | shelf ps, _, k => if dropM ps k = [] then nil else shelf (dropM ps k)
  | node own kids, w, k => match k[w.length]? with
    | none => fewer w (node none kids)
    | some c => fewer w (node own (setF kids c ((kids c).drop (w ++ [c]) k)))
/-- keys that rise, behind a way, that may be -/
structure Ok (w : Bytes) (ps : List Pr) : Prop where
  rise : rises ps = true
  beg : ∀ p ∈ ps, begins p.1 w = true
  may : ∀ p ∈ ps, p.1.length ≤ 65535
/-- well made, but for how many there are -/
def Wf0 : BT → Bytes → Prop
  | nil, _ => True
  | shelf ps, w => Ok w ps
  | node own kids, w => w.length ≤ 65535 ∧ ∀ b, (kids b).Wf0 (w ++ [b])
/-- well made -/
def Wf : BT → Bytes → Prop
  | nil, _ => True
  | shelf ps, w => Ok w ps ∧ ps ≠ [] ∧ ps.length ≤ 8
  | node own kids, w => w.length ≤ 65535 ∧ (∀ b, (kids b).Wf (w ++ [b])) ∧ 4 < (node own kids).count
theorem Wf.wf0 : ∀ {t : BT} {w : Bytes}, t.Wf w → t.Wf0 w := by
  intro t
  induction t with
  | nil => intro w _; trivial
  | shelf ps => intro w h; exact h.1
  | node own kids ih => intro w h; exact ⟨h.1, fun b => ih b (h.2.1 b)⟩

/-! bytes behind a way -/
theorem beg_len {k w : Bytes} (h : begins k w = true) : w.length ≤ k.length := by
  obtain ⟨m, rfl⟩ := begins_iff.1 h
  simp
theorem beg_nil {k w : Bytes} (h : begins k w = true) (hn : k[w.length]? = none) : k = w := by
  obtain ⟨m, rfl⟩ := begins_iff.1 h
  rw [List.getElem?_append_right (Nat.le_refl _)] at hn
  simp at hn
  simp [hn]
theorem beg_self (w : Bytes) : begins w w = true := begins_iff.2 ⟨[], by simp⟩
theorem get_self (w : Bytes) : w[w.length]? = none := List.getElem?_eq_none (Nat.le_refl _)
theorem beg_step {k w : Bytes} {b : UInt8} (h : begins k w = true) : k[w.length]? = some b ↔ begins k (w ++ [b]) = true := by
  obtain ⟨m, rfl⟩ := begins_iff.1 h
  rw [List.getElem?_append_right (Nat.le_refl _), Nat.sub_self, begins_iff]
  constructor
  · intro hb
    cases m with
    | nil => simp at hb
    | cons c m => simp at hb; subst hb; exact ⟨m, by simp⟩
  · rintro ⟨m', h⟩
    rw [List.append_assoc] at h
    have := List.append_cancel_left h
    rw [this]
    simp
theorem beg_up {k w : Bytes} {b : UInt8} (h : begins k (w ++ [b]) = true) : begins k w = true := by
  obtain ⟨m, rfl⟩ := begins_iff.1 h
  exact begins_iff.2 ⟨b :: m, by simp⟩
theorem beg_at {k w : Bytes} {b : UInt8} (h : begins k (w ++ [b]) = true) : k[w.length]? = some b := (beg_step (beg_up h)).2 h
theorem cmp_own {k w : Bytes} {b : UInt8} (h : begins k (w ++ [b]) = true) : cmpB w k = -1 := by
  obtain ⟨m, rfl⟩ := begins_iff.1 h
  rw [List.append_assoc, cmp_pre, if_neg (by simp)]
theorem cmp_part {j k w : Bytes} {b c : UInt8} (hj : begins j (w ++ [b]) = true) (hk : begins k (w ++ [c]) = true) (h : b < c) : cmpB j k = -1 := by
  obtain ⟨m, rfl⟩ := begins_iff.1 hj
  obtain ⟨m', rfl⟩ := begins_iff.1 hk
  rw [List.append_assoc, List.append_assoc, cmp_way]
  simp only [List.singleton_append]
  rw [cmp_cons, if_pos h]
theorem allB_rise : allB.Pairwise (· < ·) := by
  unfold allB
  rw [List.pairwise_map]
  refine List.Pairwise.imp_of_mem ?_ (List.pairwise_lt_range (n := 256))
  intro i j hi hj hlt
  simp at hi hj
  rw [UInt8.lt_iff_toNat_lt]
  simp
  omega

theorem pairs_beg : ∀ {t : BT} {w : Bytes}, t.Wf0 w → ∀ p ∈ t.pairs w, begins p.1 w = true ∧ p.1.length ≤ 65535 := by
  intro t
  induction t with
  | nil => intro w _ p hp; cases hp
  | shelf ps => intro w h p hp; exact ⟨h.beg p hp, h.may p hp⟩
  | node own kids ih =>
    intro w h p hp
    unfold pairs at hp
    rcases List.mem_append.1 hp with hp | hp
    · unfold ownP at hp
      cases own with
      | none => cases hp
      | some v => simp at hp; subst hp; exact ⟨beg_self w, h.1⟩
    · obtain ⟨b, _, hb⟩ := List.mem_flatMap.1 hp
      obtain ⟨h1, h2⟩ := ih b (h.2 b) p hb
      exact ⟨beg_up h1, h2⟩
theorem pairs_rise : ∀ {t : BT} {w : Bytes}, t.Wf0 w → rises (t.pairs w) = true := by
  intro t
  induction t with
  | nil => intro w _; rfl
  | shelf ps => intro w h; exact h.rise
  | node own kids ih =>
    intro w h
    unfold pairs
    rw [rises_pw, List.pairwise_append]
    refine ⟨?_, ?_, fun x hx y hy => ?_⟩
    · unfold ownP
      cases own <;> simp
    · rw [List.pairwise_flatMap]
      refine ⟨fun b _ => rises_pw.1 (ih b (h.2 b)), allB_rise.imp fun {b c} hbc x hx y hy => cmp_part (pairs_beg (h.2 b) x hx).1 (pairs_beg (h.2 c) y hy).1 hbc⟩
    · obtain ⟨b, _, hb⟩ := List.mem_flatMap.1 hy
      unfold ownP at hx
      cases own with
      | none => cases hx
      | some v => simp at hx; subst hx; exact cmp_own (pairs_beg (h.2 b) y hb).1
theorem fnd_flat (f : UInt8 → List Pr) (q : Bytes) (c : UInt8) : ∀ (l : List UInt8), (∀ b ∈ l, b ≠ c → fnd (f b) q = none) → fnd (l.flatMap f) q = if c ∈ l then fnd (f c) q else none := by
  intro l
  induction l with
  | nil => intro _; simp [fnd]
  | cons x l ih =>
    intro h
    rw [List.flatMap_cons, fnd_append', ih (fun b hb => h b (List.mem_cons_of_mem _ hb))]
    by_cases hx : x = c
    · subst hx
      simp only [List.mem_cons, true_or, if_true]
      cases fnd (f x) q <;> simp
    · rw [h x (by simp) hx]
      have : (c ∈ x :: l) ↔ c ∈ l := by simp [Ne.symm hx]
      simp [this]
theorem fnd_pairs : ∀ {t : BT} {w : Bytes}, t.Wf0 w → ∀ q, fnd (t.pairs w) q = if begins q w = true then t.look w q else none := by
  intro t
  induction t with
  | nil => intro w _ q; simp [pairs, look, fnd]
  | shelf ps =>
    intro w h q
    unfold pairs look
    split
    · rfl
    · rename_i hq
      exact fnd_none fun p hp e => by have h9 := h.beg p hp; rw [e] at h9; exact hq h9
  | node own kids ih =>
    intro w h q
    unfold pairs look
    rw [fnd_append']
    by_cases hq : begins q w = true
    · rw [if_pos hq]
      cases hc : q[w.length]? with
      | none =>
        have e := beg_nil hq hc
        subst e
        have h2 : fnd (allB.flatMap fun b => (kids b).pairs (q ++ [b])) q = none := fnd_none fun p hp e => by
          obtain ⟨b, _, hb⟩ := List.mem_flatMap.1 hp
          have := beg_at (pairs_beg (h.2 b) p hb).1
          rw [e, get_self] at this
          cases this
        rw [h2]
        unfold ownP
        cases own <;> simp [fnd]
      | some c =>
        have h1 : fnd (ownP own w) q = none := by
          unfold ownP
          cases own with
          | none => rfl
          | some v =>
            unfold fnd
            rw [if_neg (fun e => by rw [← e, get_self] at hc; cases hc)]
            rfl
        rw [h1]
        have h2 := fnd_flat (fun b => (kids b).pairs (w ++ [b])) q c allB (fun b _ hb => by
          rw [ih b (h.2 b), if_neg]
          intro e
          have := beg_at e
          rw [hc] at this
          cases this
          exact hb rfl)
        rw [h2, if_pos (mem_allB c), ih c (h.2 c), if_pos ((beg_step hq).1 hc)]
        simp
    · rw [if_neg hq]
      have h1 : fnd (ownP own w) q = none := by
        unfold ownP
        cases own with
        | none => rfl
        | some v =>
          unfold fnd
          rw [if_neg (fun e => by rw [← e] at hq; exact hq (beg_self w))]
          rfl
      have h2 : fnd (allB.flatMap fun b => (kids b).pairs (w ++ [b])) q = none := fnd_none fun p hp e => by
        obtain ⟨b, _, hb⟩ := List.mem_flatMap.1 hp
        have h9 := beg_up (pairs_beg (h.2 b) p hb).1; rw [e] at h9; exact hq h9
      rw [h1, h2]
      rfl
theorem count_pairs : ∀ (t : BT) (w : Bytes), t.count = (t.pairs w).length := by
  intro t
  induction t with
  | nil => intro w; rfl
  | shelf ps => intro w; rfl
  | node own kids ih =>
    intro w
    unfold count pairs
    rw [List.length_append, List.length_flatMap]
    congr 1
    · unfold ownP; cases own <;> rfl
    · unfold sumB
      congr 1
      exact List.map_congr_left fun b _ => ih b _

/-! what is built -/
theorem Ok.grp {w : Bytes} {ps : List Pr} (h : Ok w ps) (b : UInt8) : Ok (w ++ [b]) (grp w b ps) := by
  have hs : (BT.grp w b ps).Sublist ps := List.filter_sublist
  refine ⟨rises_pw.2 ((rises_pw.1 h.rise).sublist hs), fun p hp => ?_, fun p hp => h.may p (hs.subset hp)⟩
  obtain ⟨h1, h2⟩ := List.mem_filter.1 hp
  exact (beg_step (h.beg p h1)).1 (by simpa using h2)
theorem Ok.short {w : Bytes} {ps : List Pr} (h : Ok w ps) (hne : ps ≠ []) : w.length ≤ 65535 := by
  cases ps with
  | nil => exact absurd rfl hne
  | cons p ps =>
    have h1 := beg_len (h.beg p (by simp))
    have h2 := h.may p (by simp)
    omega
theorem built_wf0 : ∀ (n : Nat) {w : Bytes} {ps : List Pr}, w.length + n = 70000 → Ok w ps → (built w ps).Wf0 w := by
  intro n
  induction n with
  | zero =>
    intro w ps hn h
    by_cases he : ps = []
    · subst he; rw [built_few (by simp)]; exact h
    · have := h.short he; omega
  | succ n ih =>
    intro w ps hn h
    by_cases h8 : ps.length ≤ 8
    · rw [built_few h8]; exact h
    · rw [built_node h8 (by omega)]
      refine ⟨h.short (by intro e; subst e; simp at h8), fun b => ?_⟩
      dsimp only
      split
      · trivial
      · exact ih (by simp; omega) (h.grp b)
theorem built_look : ∀ (n : Nat) {w : Bytes} {ps : List Pr}, w.length + n = 70000 → Ok w ps → ∀ q, begins q w = true → (built w ps).look w q = fnd ps q := by
  intro n
  induction n with
  | zero =>
    intro w ps hn h q _
    by_cases he : ps = []
    · subst he; rw [built_few (by simp)]; rfl
    · have := h.short he; omega
  | succ n ih =>
    intro w ps hn h q hq
    by_cases h8 : ps.length ≤ 8
    · rw [built_few h8]; rfl
    · rw [built_node h8 (by omega)]
      unfold look
      cases hc : q[w.length]? with
      | none => rw [beg_nil hq hc]
      | some c =>
        dsimp only
        have hf : fnd (grp w c ps) q = fnd ps q := fnd_filter fun p hp e => by rw [e, hc]; simp
        split
        · rename_i hg
          rw [hg] at hf
          rw [← hf]
          rfl
        · rw [ih (by simp; omega) (h.grp c) q ((beg_step hq).1 hc), hf]
theorem built_pairs {w : Bytes} {ps : List Pr} (hw : w.length ≤ 70000) (h : Ok w ps) : (built w ps).pairs w = ps := by
  have h0 := built_wf0 (70000 - w.length) (by omega) h
  refine fnd_ext (pairs_rise h0) h.rise fun q => ?_
  rw [fnd_pairs h0]
  split
  · rename_i hq
    exact built_look (70000 - w.length) (by omega) h q hq
  · rename_i hq
    exact (fnd_none fun p hp e => by have h9 := h.beg p hp; rw [e] at h9; exact hq h9).symm
theorem built_count {w : Bytes} {ps : List Pr} (hw : w.length ≤ 70000) (h : Ok w ps) : (built w ps).count = ps.length := by
  rw [count_pairs _ w, built_pairs hw h]
theorem built_wf : ∀ (n : Nat) {w : Bytes} {ps : List Pr}, w.length + n = 70000 → Ok w ps → ps ≠ [] → (built w ps).Wf w := by
  intro n
  induction n with
  | zero => intro w ps hn h he; have := h.short he; omega
  | succ n ih =>
    intro w ps hn h he
    by_cases h8 : ps.length ≤ 8
    · rw [built_few h8]; exact ⟨h, he, h8⟩
    · have hcnt := built_count (by omega) h
      rw [built_node h8 (by omega)] at hcnt ⊢
      refine ⟨h.short he, fun b => ?_, by omega⟩
      dsimp only
      split
      · trivial
      · rename_i hg
        exact ih (by simp; omega) (h.grp b) hg

/-! what is put -/
theorem Ok.put {w : Bytes} {ps : List Pr} (h : Ok w ps) {p : Pr} (hb : begins p.1 w = true) (hm : p.1.length ≤ 65535) : Ok w (putM ps p.1 p.2) := by
  refine ⟨putM_rises h.rise _ _, fun r hr => ?_, fun r hr => ?_⟩
  · rcases putM_mem hr with rfl | hr
    · exact hb
    · exact h.beg r hr
  · rcases putM_mem hr with rfl | hr
    · exact hm
    · exact h.may r hr
theorem put_wf0 : ∀ {t : BT} {w : Bytes} {p : Pr}, t.Wf0 w → begins p.1 w = true → p.1.length ≤ 65535 → (t.put w p).Wf0 w := by
  intro t
  induction t with
  | nil => intro w p _ hb hm; exact ⟨rfl, fun r hr => by simp at hr; subst hr; exact hb, fun r hr => by simp at hr; subst hr; exact hm⟩
  | shelf ps =>
    intro w p h hb hm
    unfold put
    split
    · exact Ok.put h hb hm
    · have := beg_len hb
      exact built_wf0 (70000 - w.length) (by omega) (Ok.put h hb hm)
  | node own kids ih =>
    intro w p h hb hm
    unfold put
    cases hc : p.1[w.length]? with
    | none => exact h
    | some c =>
      refine ⟨h.1, fun b => ?_⟩
      by_cases hbc : b = c
      · subst hbc
        rw [setF_at]
        exact ih b (h.2 b) ((beg_step hb).1 hc) hm
      · rw [setF_ne _ _ hbc]
        exact h.2 b
theorem put_look : ∀ {t : BT} {w : Bytes} {p : Pr}, t.Wf0 w → begins p.1 w = true → p.1.length ≤ 65535 → ∀ q, begins q w = true → (t.put w p).look w q = if q = p.1 then some p.2 else t.look w q := by
  intro t
  induction t with
  | nil =>
    intro w p _ hb hm q hq
    unfold put look
    unfold fnd
    by_cases h : q = p.1
    · rw [if_pos h.symm, if_pos h]
    · rw [if_neg (fun e => h e.symm), if_neg h]; rfl
  | shelf ps =>
    intro w p h hb hm q hq
    unfold put
    split
    · unfold look; exact fnd_putM h.rise _ _ _
    · have := beg_len hb
      rw [built_look (70000 - w.length) (by omega) (Ok.put h hb hm) q hq]
      unfold look
      exact fnd_putM h.rise _ _ _
  | node own kids ih =>
    intro w p h hb hm q hq
    unfold put
    cases hc : p.1[w.length]? with
    | none =>
      have e := beg_nil hb hc
      unfold look
      cases hd : q[w.length]? with
      | none => rw [if_pos ((beg_nil hq hd).trans e.symm)]
      | some d => rw [if_neg (fun e' => by rw [e', hc] at hd; cases hd)]
    | some c =>
      unfold look
      cases hd : q[w.length]? with
      | none => rw [if_neg (fun e' => by rw [e', hc] at hd; cases hd)]
      | some d =>
        dsimp only
        by_cases hdc : d = c
        · subst hdc
          rw [setF_at]
          exact ih d (h.2 d) ((beg_step hb).1 hc) hm q ((beg_step hq).1 hd)
        · rw [setF_ne _ _ hdc, if_neg (fun e' => by rw [e', hc] at hd; cases hd; exact hdc rfl)]
theorem put_pairs {t : BT} {w : Bytes} {p : Pr} (h : t.Wf0 w) (hb : begins p.1 w = true) (hm : p.1.length ≤ 65535) : (t.put w p).pairs w = putM (t.pairs w) p.1 p.2 := by
  have h0 := put_wf0 h hb hm
  refine fnd_ext (pairs_rise h0) (putM_rises (pairs_rise h) _ _) fun q => ?_
  rw [fnd_pairs h0, fnd_putM (pairs_rise h), fnd_pairs h]
  by_cases hq : begins q w = true
  · rw [if_pos hq, if_pos hq]
    exact put_look h hb hm q hq
  · rw [if_neg hq, if_neg hq, if_neg (fun e => by rw [e] at hq; exact hq hb)]
theorem putM_ge (l : List Pr) (k : Bytes) (x : Int) : l.length ≤ (putM l k x).length := by
  cases h : there l k with
  | true => rw [putM_there' h, List.length_set]; exact Nat.le_refl _
  | false => rw [putM_not' h]; have := rank_le l k; simp; omega
theorem put_count {t : BT} {w : Bytes} {p : Pr} (h : t.Wf0 w) (hb : begins p.1 w = true) (hm : p.1.length ≤ 65535) : t.count ≤ (t.put w p).count := by
  rw [count_pairs _ w, count_pairs _ w, put_pairs h hb hm]
  exact putM_ge _ _ _
theorem put_wf : ∀ {t : BT} {w : Bytes} {p : Pr}, t.Wf w → begins p.1 w = true → p.1.length ≤ 65535 → (t.put w p).Wf w := by
  intro t
  induction t with
  | nil => intro w p _ hb hm; exact ⟨⟨rfl, fun r hr => by simp at hr; subst hr; exact hb, fun r hr => by simp at hr; subst hr; exact hm⟩, by simp, by simp⟩
  | shelf ps =>
    intro w p h hb hm
    have hne : putM ps p.1 p.2 ≠ [] := fun e => by
      have h1 := putM_ge ps p.1 p.2
      rw [e] at h1
      have h2 := List.length_pos_iff.2 h.2.1
      simp only [List.length_nil] at h1
      omega
    unfold put
    split
    · rename_i ht
      exact ⟨Ok.put h.1 hb hm, hne, by rw [putM_there' ht, List.length_set]; exact h.2.2⟩
    · have := beg_len hb
      exact built_wf (70000 - w.length) (by omega) (Ok.put h.1 hb hm) hne
  | node own kids ih =>
    intro w p h hb hm
    have hcnt := put_count (t := node own kids) h.wf0 hb hm
    unfold put at hcnt ⊢
    cases hc : p.1[w.length]? with
    | none =>
      rw [hc] at hcnt
      exact ⟨h.1, h.2.1, by have := h.2.2; simp only at hcnt; omega⟩
    | some c =>
      rw [hc] at hcnt
      refine ⟨h.1, fun b => ?_, by have := h.2.2; simp only at hcnt; omega⟩
      by_cases hbc : b = c
      · subst hbc
        rw [setF_at]
        exact ih b (h.2.1 b) ((beg_step hb).1 hc) hm
      · rw [setF_ne _ _ hbc]
        exact h.2.1 b

/-! what is dropped -/
theorem Ok.sub {w : Bytes} {ps qs : List Pr} (h : Ok w ps) (hs : ∀ p ∈ qs, p ∈ ps) (hr : rises qs = true) : Ok w qs := ⟨hr, fun p hp => h.beg p (hs p hp), fun p hp => h.may p (hs p hp)⟩
theorem fewer_wf0 {t : BT} {w : Bytes} (h : t.Wf0 w) : (fewer w t).Wf0 w := by
  unfold fewer
  split
  · exact ⟨pairs_rise h, fun p hp => (pairs_beg h p hp).1, fun p hp => (pairs_beg h p hp).2⟩
  · exact h
theorem fewer_pairs (t : BT) (w : Bytes) : (fewer w t).pairs w = t.pairs w := by
  unfold fewer
  split <;> rfl
theorem fewer_look {t : BT} {w : Bytes} (h : t.Wf0 w) {q : Bytes} (hq : begins q w = true) : (fewer w t).look w q = t.look w q := by
  unfold fewer
  split
  · have := fnd_pairs h q
    rw [if_pos hq] at this
    exact this
  · rfl
theorem drop_both : ∀ {t : BT} {w k : Bytes}, t.Wf0 w → begins k w = true → (t.drop w k).Wf0 w ∧ ∀ q, begins q w = true → (t.drop w k).look w q = if q = k then none else t.look w q := by
  intro t
  induction t with
  | nil => intro w k _ _; exact ⟨trivial, fun q _ => by unfold drop look; simp⟩
  | shelf ps =>
    intro w k h hb
    have hf := fun q => fnd_dropM h.rise k q
    unfold drop
    split
    · rename_i he
      refine ⟨trivial, fun q _ => ?_⟩
      have := hf q
      rw [he] at this
      unfold look
      exact this
    · refine ⟨Ok.sub h (fun p hp => dropM_mem hp) (dropM_rises h.rise k), fun q _ => ?_⟩
      unfold look
      exact hf q
  | node own kids ih =>
    intro w k h hb
    unfold drop
    cases hc : k[w.length]? with
    | none =>
      have h1 : (node none kids).Wf0 w := h
      refine ⟨fewer_wf0 h1, fun q hq => ?_⟩
      rw [fewer_look h1 hq]
      have e := beg_nil hb hc
      unfold look
      cases hd : q[w.length]? with
      | none => rw [if_pos ((beg_nil hq hd).trans e.symm)]
      | some d => rw [if_neg (fun e' => by rw [e', hc] at hd; cases hd)]
    | some c =>
      obtain ⟨i1, i2⟩ := ih c (h.2 c) ((beg_step hb).1 hc)
      have h1 : (node own (setF kids c ((kids c).drop (w ++ [c]) k))).Wf0 w := by
        refine ⟨h.1, fun b => ?_⟩
        by_cases hbc : b = c
        · subst hbc; rw [setF_at]; exact i1
        · rw [setF_ne _ _ hbc]; exact h.2 b
      refine ⟨fewer_wf0 h1, fun q hq => ?_⟩
      rw [fewer_look h1 hq]
      unfold look
      cases hd : q[w.length]? with
      | none => rw [if_neg (fun e' => by rw [e', hc] at hd; cases hd)]
      | some d =>
        dsimp only
        by_cases hdc : d = c
        · subst hdc
          rw [setF_at]
          exact i2 q ((beg_step hq).1 hd)
        · rw [setF_ne _ _ hdc, if_neg (fun e' => by rw [e', hc] at hd; cases hd; exact hdc rfl)]
theorem drop_pairs {t : BT} {w k : Bytes} (h : t.Wf0 w) (hb : begins k w = true) : (t.drop w k).pairs w = dropM (t.pairs w) k := by
  obtain ⟨h0, hl⟩ := drop_both h hb
  refine fnd_ext (pairs_rise h0) (dropM_rises (pairs_rise h) _) fun q => ?_
  rw [fnd_pairs h0, fnd_dropM (pairs_rise h), fnd_pairs h]
  by_cases hq : begins q w = true
  · rw [if_pos hq, if_pos hq]
    exact hl q hq
  · rw [if_neg hq, if_neg hq, if_neg (fun e => by rw [e] at hq; exact hq hb)]
theorem fewer_wf {own : Option Int} {kids : UInt8 → BT} {w : Bytes} (h : (node own kids).Wf0 w) (hk : ∀ b, (kids b).Wf (w ++ [b])) (h4 : 4 ≤ (node own kids).count) : (fewer w (node own kids)).Wf w := by
  unfold fewer
  split
  · rename_i hc
    have e := count_pairs (node own kids) w
    exact ⟨⟨pairs_rise h, fun p hp => (pairs_beg h p hp).1, fun p hp => (pairs_beg h p hp).2⟩, fun e' => by rw [e'] at e; simp at e; omega, by omega⟩
  · exact ⟨h.1, hk, by omega⟩
theorem drop_wf : ∀ {t : BT} {w k : Bytes}, t.Wf w → begins k w = true → (t.drop w k).Wf w := by
  intro t
  induction t with
  | nil => intro w k _ _; trivial
  | shelf ps =>
    intro w k h hb
    unfold drop
    split
    · trivial
    · rename_i he
      exact ⟨Ok.sub h.1 (fun p hp => dropM_mem hp) (dropM_rises h.1.rise k), he, by have := dropM_length ps k; have := h.2.2; omega⟩
  | node own kids ih =>
    intro w k h hb
    have hp := drop_pairs (t := node own kids) (k := k) h.wf0 hb
    have hge := dropM_length_ge ((node own kids).pairs w) k
    rw [← hp, ← count_pairs _ w] at hge
    have h5 := h.2.2
    unfold drop at hge ⊢
    cases hc : k[w.length]? with
    | none =>
      rw [hc] at hge
      rw [fewer_pairs, ← count_pairs] at hge
      exact fewer_wf h.wf0 h.2.1 (by omega)
    | some c =>
      rw [hc] at hge
      simp only at hge
      rw [fewer_pairs, ← count_pairs] at hge
      have hk : ∀ b, ((setF kids c ((kids c).drop (w ++ [c]) k)) b).Wf (w ++ [b]) := fun b => by
        by_cases hbc : b = c
        · subst hbc; rw [setF_at]; exact ih b (h.2.1 b) ((beg_step hb).1 hc)
        · rw [setF_ne _ _ hbc]; exact h.2.1 b
      exact fewer_wf ⟨h.1, fun b => (hk b).wf0⟩ hk (by omega)
end BT
end Go.Proofs.Ytaloblomncjgkaa.X
