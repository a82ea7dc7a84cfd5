/- How many cells a burst trie has. No program in it. -/
import Derived.Test.YtaloblomncjgkaaKbl
namespace Go.Proofs.Ytaloblomncjgkaa.X
open Go
set_option linter.unusedVariables false
set_option linter.unusedSimpArgs false
set_option maxRecDepth 10000
attribute [local irreducible] allB
namespace BT
theorem sumB_add (f g : UInt8 → Nat) : sumB (fun b => f b + g b) = sumB f + sumB g := by
  unfold sumB
  generalize allB = l
  induction l with
  | nil => rfl
  | cons x l ih => simp only [List.map_cons, List.sum_cons, ih]; omega
/-- the pairs of all bytes are no more than all -/
theorem grp_sum (w : Bytes) (m : Pr → Nat) : ∀ ps : List Pr, sumB (fun c => ((grp w c ps).map m).sum) = ((ps.filter fun p => (p.1[w.length]?).isSome).map m).sum := by
  intro ps
  induction ps with
  | nil => exact sumB_zero
  | cons p ps ih =>
    cases hc : p.1[w.length]? with
    | none =>
      have e : ∀ c, grp w c (p :: ps) = grp w c ps := fun c => by unfold grp; rw [List.filter_cons, if_neg (by simp [hc])]
      rw [sumB_congr (fun c => by rw [e c]), ih, List.filter_cons, if_neg (by simp [hc])]
    | some d =>
      have e : ∀ c, ((grp w c (p :: ps)).map m).sum = ((grp w c ps).map m).sum + (if c = d then m p else 0) := fun c => by
        unfold grp
        rw [List.filter_cons]
        by_cases h : c = d
        · subst h; rw [if_pos (by simp [hc]), if_pos rfl]; simp; omega
        · rw [if_neg (by simp [hc]; exact fun e => h e.symm), if_neg h]; rfl
      have e2 : sumB (fun c => if c = d then m p else 0) = m p := by
        have := sumB_upd d (g := fun _ => 0) (g' := fun c => if c = d then m p else 0) (fun c hc => by simp [hc])
        rw [sumB_zero] at this
        simpa using this
      rw [sumB_congr e, sumB_add, ih, e2, List.filter_cons, if_pos (by simp [hc])]
      simp
      omega
theorem sum_filter_le (m : Pr → Nat) (P : Pr → Bool) (ps : List Pr) : ((ps.filter P).map m).sum ≤ (ps.map m).sum := by
  induction ps with
  | nil => simp
  | cons p ps ih =>
    rw [List.filter_cons]
    split
    · simp; omega
    · simp; omega
theorem sum_one (ps : List Pr) : (ps.map fun _ => 1).sum = ps.length := by
  induction ps with
  | nil => rfl
  | cons p ps ih => simp [ih]; omega
theorem grp_len_sum (w : Bytes) (ps : List Pr) : sumB (fun c => (grp w c ps).length) ≤ ps.length := by
  have h1 := grp_sum w (fun _ => 1) ps
  have h2 := sum_filter_le (fun _ => 1) (fun p => (p.1[w.length]?).isSome) ps
  rw [sum_one ps, ← h1] at h2
  rw [sumB_congr (g' := fun c => (grp w c ps).length) (g := fun c => ((grp w c ps).map fun _ => 1).sum) (fun c => (sum_one _).symm)]
  exact h2
theorem grp_len_two (w : Bytes) (ps : List Pr) {c d : UInt8} (h : c ≠ d) : (grp w c ps).length + (grp w d ps).length ≤ ps.length := by
  have h1 := grp_len_sum w ps
  have h2 := sumB_upd c (g := fun x => (grp w x ps).length) (g' := setF (fun x => (grp w x ps).length) c 0) (fun x hx => setF_ne _ _ hx)
  rw [setF_at] at h2
  have h3 := le_sumB (setF (fun x => (grp w x ps).length) c 0) d
  rw [setF_ne _ _ (Ne.symm h)] at h3
  omega
theorem built_one (w : Bytes) {ps : List Pr} (h : ps.length ≤ 8) : (built w ps).size = 1 := by rw [built_few h]; rfl
/-- of nine pairs: no more than a chain, and ten -/
theorem built_nine : ∀ (N : Nat) {w : Bytes} {ps : List Pr} {p : Pr}, w.length + N = 70000 → Ok w ps → ps.length ≤ 9 → p ∈ ps → (built w ps).size + w.length ≤ p.1.length + 10 := by
  intro N
  induction N with
  | zero =>
    intro w ps p hN hO h9 hp
    have := hO.short (List.ne_nil_of_mem hp)
    omega
  | succ N ih =>
    intro w ps p hN hO h9 hp
    have hpl := beg_len (hO.beg p hp)
    by_cases h8 : ps.length ≤ 8
    · rw [built_one w h8]; omega
    rw [built_node h8 (by omega)]
    show 1 + sumB (fun c => (if grp w c ps = [] then nil else built (w ++ [c]) (grp w c ps)).size) + w.length ≤ _
    have hlen := grp_len_sum w ps
    by_cases hall : ∃ c, 8 < (grp w c ps).length
    · obtain ⟨c, hc⟩ := hall
      have hgs : (grp w c ps).Sublist ps := List.filter_sublist
      have hge : grp w c ps = ps := hgs.eq_of_length_le (by omega)
      have hpc : p.1[w.length]? = some c := by
        rw [← hge] at hp
        have := (List.mem_filter.1 hp).2
        simpa using this
      have hlt : w.length < p.1.length := (List.getElem?_eq_some_iff.1 hpc).1
      have hother : ∀ d, d ≠ c → grp w d ps = [] := fun d hd => by
        have := grp_len_two w ps (Ne.symm hd)
        exact List.length_eq_zero_iff.1 (by omega)
      have h1 := sumB_upd c (g := fun _ => 0) (g' := fun d => (if grp w d ps = [] then nil else built (w ++ [d]) (grp w d ps)).size) (fun d hd => by rw [if_pos (hother d hd)]; rfl)
      rw [sumB_zero] at h1
      rw [if_neg (by intro e; rw [e] at hc; simp at hc)] at h1
      have h2 := ih (w := w ++ [c]) (ps := grp w c ps) (p := p) (by simp; omega) (hO.grp c) (by rw [hge]; exact h9) (by rw [hge]; exact hp)
      rw [List.length_append, List.length_singleton] at h2
      omega
    · have h1 : sumB (fun c => (if grp w c ps = [] then nil else built (w ++ [c]) (grp w c ps)).size) ≤ sumB (fun c => (grp w c ps).length) := sumB_le fun c => by
        split
        · exact Nat.zero_le _
        · rename_i hne
          have h3 : ¬ 8 < (grp w c ps).length := fun h => hall ⟨c, h⟩
          rw [built_one _ (by omega)]
          exact List.length_pos_iff.2 hne
      omega
/-- of any pairs -/
theorem built_size : ∀ (N : Nat) {w : Bytes} {ps : List Pr}, w.length + N = 70000 → Ok w ps → ps ≠ [] → (built w ps).size ≤ (ps.map fun p => p.1.length - w.length + 2).sum := by
  intro N
  induction N with
  | zero => intro w ps hN hO hne; have := hO.short hne; omega
  | succ N ih =>
    intro w ps hN hO hne
    by_cases h8 : ps.length ≤ 8
    · rw [built_one w h8]
      cases ps with
      | nil => exact absurd rfl hne
      | cons p ps => simp; omega
    rw [built_node h8 (by omega)]
    show 1 + sumB (fun c => (if grp w c ps = [] then nil else built (w ++ [c]) (grp w c ps)).size) ≤ _
    have h1 : sumB (fun c => (if grp w c ps = [] then nil else built (w ++ [c]) (grp w c ps)).size) ≤ sumB (fun c => ((grp w c ps).map fun p => p.1.length - w.length + 1).sum) := sumB_le fun c => by
      split
      · exact Nat.zero_le _
      · rename_i hg
        refine Nat.le_trans (ih (by simp; omega) (hO.grp c) hg) (Nat.le_of_eq ?_)
        congr 1
        refine List.map_congr_left fun p hp => ?_
        have := beg_len ((hO.grp c).beg p hp)
        rw [List.length_append, List.length_singleton] at *
        omega
    rw [grp_sum] at h1
    have h2 := sum_filter_le (fun p => p.1.length - w.length + 1) (fun p => (p.1[w.length]?).isSome) ps
    have h3 : (ps.map fun p => p.1.length - w.length + 2).sum = (ps.map fun p => p.1.length - w.length + 1).sum + ps.length := by
      generalize ps = l
      induction l with
      | nil => rfl
      | cons p l ih => simp only [List.map_cons, List.sum_cons, List.length_cons, ih]; omega
    omega
/-- what a put takes -/
theorem put_size : ∀ (t : BT) {w : Bytes} {p : Pr}, t.Wf w → begins p.1 w = true → p.1.length ≤ 65535 → (t.put w p).size + w.length ≤ t.size + p.1.length + 9 ∧ t.size ≤ (t.put w p).size := by
  intro t
  induction t with
  | nil => intro w p _ hb _; have := beg_len hb; exact ⟨by show 1 + _ ≤ 0 + _ + _; omega, Nat.zero_le _⟩
  | shelf ps =>
    intro w p h hb hm
    have hl := beg_len hb
    unfold put
    split
    · exact ⟨by show 1 + _ ≤ 1 + _ + _; omega, Nat.le_refl _⟩
    · rename_i hth
      have hth : there ps p.1 = false := by simpa using hth
      have h8 := h.2.2
      have hlen : (putM ps p.1 p.2).length ≤ 9 := by rw [putM_not' hth]; have := rank_le ps p.1; simp; omega
      have hmem : p ∈ putM ps p.1 p.2 := by rw [putM_not' hth]; simp
      have h9 := built_nine (70000 - w.length) (by omega) (Ok.put h.1 hb hm) hlen hmem
      refine ⟨by show _ ≤ 1 + _ + _; omega, ?_⟩
      show 1 ≤ _
      cases hbt : built w (putM ps p.1 p.2) with
      | nil =>
        exfalso
        have hwf := built_count (by omega) (Ok.put h.1 hb hm)
        rw [hbt] at hwf
        have := List.length_pos_iff.2 (List.ne_nil_of_mem hmem)
        simp [count] at hwf
        omega
      | shelf qs => exact Nat.le_refl _
      | node own kids => show 1 ≤ 1 + _; omega
  | node own kids ih =>
    intro w p h hb hm
    have hl := beg_len hb
    cases hc : p.1[w.length]? with
    | none =>
      have e : (node own kids).put w p = node (some p.2) kids := by rw [put, hc]
      rw [e]
      exact ⟨by show 1 + _ + _ ≤ 1 + _ + _ + _; omega, Nat.le_refl _⟩
    | some c =>
      have e : (node own kids).put w p = node own (setF kids c ((kids c).put (w ++ [c]) p)) := by rw [put, hc]
      rw [e]
      obtain ⟨i1, i2⟩ := ih c (h.2.1 c) ((beg_step hb).1 hc) hm
      rw [List.length_append, List.length_singleton] at i1
      have h1 : (node own (setF kids c ((kids c).put (w ++ [c]) p))).size + (kids c).size = (node own kids).size + ((kids c).put (w ++ [c]) p).size := by
        show 1 + sumB _ + _ = 1 + sumB _ + _
        have := sumB_upd c (g := fun b => (kids b).size) (g' := fun b => (setF kids c ((kids c).put (w ++ [c]) p) b).size) (fun d hd => by rw [setF_ne _ _ hd])
        simp only [setF_at] at this
        omega
      omega
end BT
end Go.Proofs.Ytaloblomncjgkaa.X
