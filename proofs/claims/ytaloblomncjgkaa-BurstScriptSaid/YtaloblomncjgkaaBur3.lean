/- The package burst: what is built of pairs. -/
import Derived.Test.YtaloblomncjgkaaBur2
import Derived.Test.YtaloblomncjgkaaKbl
namespace Go.Proofs.Ytaloblomncjgkaa.X
open Go Go.Proofs
set_option linter.unusedVariables false
set_option linter.unusedSimpArgs false
set_option maxRecDepth 10000
set_option maxHeartbeats 2000000

theorem slices_CloneP {va : Value} {n : Nat} {q : List (Value × Int)} {H : Heap} (sA : IsSl va n) (hn : q.length = n) (hc : Cels H (sb va) (so va) (pcs q)) (hqo : ∀ z ∈ pcs q, oneC z = true) (hla : n ≤ 1000000) : Ret Try.prog 85 [va] H (fun v H' => Keep Non H H' ∧ Own 2 H' v n (pcs q) ∧ Fresh H v) := by
  have cA := sA.cap
  refine ret_of Try.func85 rfl rfl rfl rfl ?_
  intro w0
  repeat (first | refine za ?_ | refine zb ?_ | refine zj ?_ | refine zx ?_ | refine zy ?_ | refine zz ?_ | refine zzc ?_ | refine zzd ?_ | refine zzf ?_ | refine zzg ?_)
  refine x_sleqn rfl rfl rfl (by assumption) rfl trivial ?_
  repeat (first | refine za ?_ | refine zb ?_ | refine zj ?_ | refine zx ?_ | refine zy ?_ | refine zz ?_ | refine zzc ?_ | refine zzd ?_ | refine zzf ?_ | refine zzg ?_)
  refine cw_cond rfl (fun h1 => ?_) (fun h1 => ?_) <;> (try simp at h1)
  · obtain ⟨rfl, h0⟩ := snil_len sA h1
    have : q = [] := List.length_eq_zero_iff.1 (hn.trans h0)
    subst this
    have hn0 : n = 0 := h0
    subst hn0
    repeat (first | refine za ?_ | refine zb ?_ | refine zj ?_ | refine zx ?_ | refine zy ?_ | refine zz ?_ | refine zzc ?_ | refine zzd ?_ | refine zzf ?_ | refine zzg ?_)
    exact cw_ret1 rfl rfl ⟨Keep.refl _ _, Own.nil _ _, Fresh.nil _⟩
  · repeat (first | refine za ?_ | refine zb ?_ | refine zj ?_ | refine zx ?_ | refine zy ?_ | refine zz ?_ | refine zzc ?_ | refine zzd ?_ | refine zzf ?_ | refine zzg ?_)
    refine x_buildSliceS (css := []) inferInstance inferInstance (by rfl) rfl rfl rfl (by omega) (by simp) rfl trivial ?_
    intro H1 hn1
    refine ⟨trivial, ?_⟩
    repeat (first | refine za ?_ | refine zb ?_ | refine zj ?_ | refine zx ?_ | refine zy ?_ | refine zz ?_ | refine zzc ?_ | refine zzd ?_ | refine zzf ?_ | refine zzg ?_)
    have hO : Own 2 H1 (.slice (some ⟨H.size, 0, none⟩) 0 0) 0 [] := Own.new hn1 rfl (by omega)
    refine x_append (by rfl) (by rfl) (by rfl) rfl rfl rfl hO sA (by rw [pcs_length, hn]) (hc.keep hn1.keep (fun _ h => h)) hqo (by omega) rfl trivial ?_
    intro v' H2 hap
    refine ⟨trivial, ?_⟩
    repeat (first | refine za ?_ | refine zb ?_ | refine zj ?_ | refine zx ?_ | refine zy ?_ | refine zz ?_ | refine zzc ?_ | refine zzd ?_ | refine zzf ?_ | refine zzg ?_)
    refine cw_ret1 rfl rfl ⟨hap.old (Fresh.mk_ _ _ _) hn1.keep, ?_, hap.fresh (Fresh.mk_ _ _ _) (by have := hn1.size; omega)⟩
    simpa using hap.own

/-- a part that is given only if .. -/
def Lab.opt (L : Lab) (p : Prop) [Decidable p] (b : Nat) (r : Nat × Bytes) : Lab := if p then L.set b r else L
section opt
variable {L : Lab} {p : Prop} [Decidable p] {b B x : Nat} {r : Nat × Bytes} {H : Heap}
theorem Lab.opt_at (h : p) : L.opt p b r b = some r := by unfold Lab.opt; rw [if_pos h, Lab.set_at]
theorem Lab.opt_ne (h : p → x ≠ b) : L.opt p b r x = L x := by
  unfold Lab.opt
  split
  · rename_i hp; exact Lab.set_ne (h hp)
  · rfl
theorem Lab.Ext.opt (h : p → L b = none ∧ B ≤ b) : Lab.Ext B L (L.opt p b r) := by
  unfold Lab.opt
  split
  · rename_i hp; exact Lab.Ext.set (h hp).1 (h hp).2
  · exact Lab.Ext.refl _ _
theorem Lab.In.opt (h : L.In H) (hb : p → b < H.size) : (L.opt p b r).In H := by
  unfold Lab.opt
  split
  · rename_i hp; exact h.set (hb hp)
  · exact h
end opt

/-- while a node is built: i pairs are parted -/
structure BldJ (L : Lab) (H0 : Heap) (w : Bytes) (ps : List Pr) (b m : Nat) (c : Value) (own : Option Int) (i : Nat) (u : Value) (f : UInt8 → Option Nat) (L' : Lab) (H' : Heap) : Prop where
  le : i ≤ ps.length
  keep : Keep Non H0 H'
  blk : Blk H' b [c, .slice none 0 0, .bool own.isSome, .int .u64 (own.getD 0), .map (some m)]
  key : KL L' H' c w
  lin : L'.In H'
  ext : Lab.Ext H0.size L L'
  lb : L' b = some (1, w)
  lm : L' m = some (3, w)
  kd : Kd H' m f
  row : PsK (KL L' H') H' u (ps.drop i)
  low : ps.drop i ≠ [] → sb u < H0.size
  long : ∀ p ∈ ps.drop i, w.length < p.1.length
  parted : BT.Parted w ps i
  kids : ∀ d, (BT.grp w d (ps.take i) = [] ∧ f d = none) ∨ (BT.grp w d (ps.take i) ≠ [] ∧ ∃ x, f d = some x ∧ Tr L' H' (BT.built (w ++ [d]) (BT.grp w d (ps.take i))) (w ++ [d]) x)
/-- one more byte's pairs are built; the row is not cut yet -/
structure BldM (L : Lab) (H0 : Heap) (w : Bytes) (ps : List Pr) (b m : Nat) (c : Value) (own : Option Int) (i j : Nat) (u : Value) (f : UInt8 → Option Nat) (L' : Lab) (H' : Heap) : Prop where
  keep : Keep Non H0 H'
  blk : Blk H' b [c, .slice none 0 0, .bool own.isSome, .int .u64 (own.getD 0), .map (some m)]
  key : KL L' H' c w
  lin : L'.In H'
  ext : Lab.Ext H0.size L L'
  lb : L' b = some (1, w)
  lm : L' m = some (3, w)
  kd : Kd H' m f
  row : PsK (KL L' H') H' u (ps.drop i)
  kids : ∀ d, (BT.grp w d (ps.take (i + j)) = [] ∧ f d = none) ∨ (BT.grp w d (ps.take (i + j)) ≠ [] ∧ ∃ x, f d = some x ∧ Tr L' H' (BT.built (w ++ [d]) (BT.grp w d (ps.take (i + j)))) (w ++ [d]) x)
theorem bld_step {L : Lab} {H0 H6 H11 H12 : Heap} {w : Bytes} {ps : List Pr} {b m i j bx : Nat} {c u : Value} {own : Option Int} {f : UInt8 → Option Nat} {L6 L11 : Lab} {x : UInt8} (hst : BT.Step w ps i j x) (hJ : BldJ L H0 w ps b m c own i u f L6 H6)
    (hk : Keep Non H6 H11) (hE : Lab.Ext H6.size L6 L11) (hI : L11.In H11) (hT : Tr L11 H11 (BT.built (w ++ [x]) ((ps.drop i).take j)) (w ++ [x]) bx) (hkm : Keep (· = m) H11 H12) (hM : Kd H12 m (setF f x (some bx))) (hs : H0.size ≤ m) (hne : (ps.drop i).take j ≠ []) :
    ∃ f L', BldM L H0 w ps b m c own i j u f L' H12 := by
  have hlb : L11 b = some (1, w) := by rw [hE.old b (by rw [hJ.lb]; simp)]; exact hJ.lb
  have hlm : L11 m = some (3, w) := by rw [hE.old m (by rw [hJ.lm]; simp)]; exact hJ.lm
  have hkey : ∀ y, L11 y = some (0, []) → ¬ y = m := fun y hy e => by rw [e, hlm] at hy; simp at hy
  have hbeh : ∀ d y, Beh L11 (w ++ [d]) y → ¬ y = m := fun d y hy e => by
    obtain ⟨a, w', h1, h2⟩ := hy
    rw [e, hlm] at h1
    simp at h1
    rw [← h1.2] at h2
    exact not_pre_self h2
  have hK : ∀ k c, KL L6 H6 k c → KL L11 H12 k c := fun k c hb => ((hb.lab hE.old).keepN hk).keep hkm hkey
  refine ⟨setF f x (some bx), L11, keep_at (hJ.keep.non_trans hk) hkm hs, (hJ.blk.keep hk (fun h => h)).keep hkm (fun e => by rw [e, hlm] at hlb; simp at hlb), hK _ _ hJ.key, hI.mono hkm.size, hJ.ext.trans (hE.mono hJ.keep.size), hlb, hlm, hM, ?_, fun d => ?_⟩
  · refine (hJ.row.step (fun k c hb => (hb.lab hE.old).keepN hk) hk).stepS (fun k c hb => hb.keep hkm hkey) hkm (fun hne => ?_)
    have := hJ.low hne
    omega
  · by_cases hd : d = x
    · subst hd
      refine .inr ⟨by rw [hst.here]; exact hne, bx, setF_at _ _ _, ?_⟩
      rw [hst.here]
      exact hT.keep hkm hkey (hbeh d)
    · rw [setF_ne _ _ hd, hst.other d hd]
      rcases hJ.kids d with h | ⟨h1, y, h2, h3⟩
      · exact .inl h
      · exact .inr ⟨h1, y, h2, ((h3.lab hE.old).keepN hk).keep hkm hkey (hbeh d)⟩
/-- what a call that builds of pairs promises -/
def BuiltOk (L : Lab) (B : Nat) (H : Heap) (t : BT) (w : Bytes) (r : Value) (H' : Heap) : Prop := Keep Non H H' ∧ ∃ b L', r = ptr b 0 ∧ H.size ≤ b ∧ Lab.Ext B L L' ∧ L'.In H' ∧ Tr L' H' t w b

theorem burst_built : ∀ (N : Nat) {w : Bytes} {ps : List Pr} {L : Lab} {B : Nat} {vk vp : Value} {q : List (Value × Int)} {H : Heap}, w.length + N = 70000 → BT.Ok w ps → Bs H vk w → Own 2 H vp ps.length (pcs q) → Pk (KL L H) q ps → L.In H → (0 < sc vp → L (sb vp) = none ∧ B ≤ sb vp) → B ≤ H.size → ps.length ≤ 100000 →
    Ret Try.prog 67 [vk, vp] H (fun r H' => BuiltOk L B H (BT.built w ps) w r H') := by
  intro N
  induction N using Nat.strongRecOn with
  | ind N ih =>
    intro w ps L B vk vp q H hN hO hK hv hq hL hf hB hl
    have sP := hv.sl
    have sK := hK.sl
    refine ret_of Try.func67 rfl rfl rfl rfl ?_
    intro w0
    repeat (first | refine za ?_ | refine zb ?_ | refine zc ?_ | refine zj ?_ | refine zl ?_ | refine zm ?_ | refine zn ?_ | refine zs ?_ | refine zt ?_ | refine zu ?_ | refine zv ?_ | refine zw ?_ | refine zx ?_ | refine zy ?_ | refine zz ?_ | refine zza ?_ | refine zzb ?_ | refine zzc ?_ | refine zzd ?_ | refine zze ?_ | refine zzf ?_ | refine zzg ?_)
    refine x_call rfl rfl rfl trivial (slices_Clone hK (by omega)) ?_
    rintro c H1 ⟨hk1, hc1, hf1⟩
    refine ⟨trivial, ?_⟩
    repeat (first | refine za ?_ | refine zb ?_ | refine zc ?_ | refine zj ?_ | refine zl ?_ | refine zm ?_ | refine zn ?_ | refine zs ?_ | refine zt ?_ | refine zu ?_ | refine zv ?_ | refine zw ?_ | refine zx ?_ | refine zy ?_ | refine zz ?_ | refine zza ?_ | refine zzb ?_ | refine zzc ?_ | refine zzd ?_ | refine zze ?_ | refine zzf ?_ | refine zzg ?_)
    refine x_build (cs := [c, .slice none 0 0, .bool false, .int .u64 0, .map none]) rfl rfl rfl (by simp [isSl_oneC hc1.sl]) rfl trivial ?_
    refine x_box rfl rfl rfl trivial ?_
    intro H2 hn2
    refine ⟨trivial, ?_⟩
    have hk2 := hn2.old hk1
    have hs1 := hk1.size
    have hs2 := hn2.size
    have hcc : w ≠ [] → H.size ≤ sb c ∧ sb c < H1.size := fun hne => by
      have := List.length_pos_iff.2 hne
      have := hc1.sl.cap.1
      exact ⟨hf1 (by omega), hc1.lt (by omega)⟩
    have hvl : 0 < sc vp → sb vp < H.size := fun h => hv.lt h
    obtain ⟨Lk, hLk⟩ : ∃ Lk, Lk = (L.opt (w ≠ []) (sb c) (0, [])).set H1.size (1, w) := ⟨_, rfl⟩
    have hEk : Lab.Ext H.size L Lk := by
      rw [hLk]
      exact (Lab.Ext.opt fun hne => ⟨hL.off (hcc hne).1, (hcc hne).1⟩).trans (Lab.Ext.set (by rw [Lab.opt_ne (fun hne => by have := hcc hne; omega)]; exact hL.off (by omega)) (by omega))
    have hIk : Lk.In H2 := by
      rw [hLk]
      exact Lab.In.set (Lab.In.opt (hL.mono (by omega)) (fun hne => by have := hcc hne; omega)) (by omega)
    have hAk : Lk H1.size = some (1, w) := by rw [hLk]; exact Lab.set_at
    have hKk : KL Lk H2 c w := ⟨hc1.bs.keepN hn2.keep, fun hne => by
      have hne : w ≠ [] := hne
      rw [hLk, Lab.set_ne (by have := hcc hne; omega)]
      exact Lab.opt_at hne⟩
    repeat (first | refine za ?_ | refine zb ?_ | refine zc ?_ | refine zj ?_ | refine zl ?_ | refine zm ?_ | refine zn ?_ | refine zs ?_ | refine zt ?_ | refine zu ?_ | refine zv ?_ | refine zw ?_ | refine zx ?_ | refine zy ?_ | refine zz ?_ | refine zza ?_ | refine zzb ?_ | refine zzc ?_ | refine zzd ?_ | refine zze ?_ | refine zzf ?_ | refine zzg ?_)
    refine cw_cond rfl (fun h8 => ?_) (fun h8 => ?_) <;> (try simp at h8)
    · have h8' : ps.length ≤ 8 := by omega
      rw [BT.built_few h8']
      repeat (first | refine za ?_ | refine zb ?_ | refine zc ?_ | refine zj ?_ | refine zl ?_ | refine zm ?_ | refine zn ?_ | refine zs ?_ | refine zt ?_ | refine zu ?_ | refine zv ?_ | refine zw ?_ | refine zx ?_ | refine zy ?_ | refine zz ?_ | refine zza ?_ | refine zzb ?_ | refine zzc ?_ | refine zzd ?_ | refine zze ?_ | refine zzf ?_ | refine zzg ?_)
      refine x_store rfl rfl rfl (isSl_oneC sP) hn2.blk (by simp) trivial ?_
      intro H3 hB3 hk3 hs3
      refine ⟨trivial, ?_⟩
      repeat (first | refine za ?_ | refine zb ?_ | refine zc ?_ | refine zj ?_ | refine zl ?_ | refine zm ?_ | refine zn ?_ | refine zs ?_ | refine zt ?_ | refine zu ?_ | refine zv ?_ | refine zw ?_ | refine zx ?_ | refine zy ?_ | refine zz ?_ | refine zza ?_ | refine zzb ?_ | refine zzc ?_ | refine zzd ?_ | refine zze ?_ | refine zzf ?_ | refine zzg ?_)
      have hk03 := keep_at hk2 hk3 hs1
      have hE : Lab.Ext B L (Lk.opt (0 < sc vp) (sb vp) (2, w)) := (hEk.mono hB).trans (Lab.Ext.opt fun h => ⟨by rw [hEk.low _ (hvl h)]; exact (hf h).1, (hf h).2⟩)
      have hA2 : (Lk.opt (0 < sc vp) (sb vp) (2, w)) H1.size = some (1, w) := by rw [Lab.opt_ne (fun h => by have := hvl h; omega)]; exact hAk
      refine cw_ret1 rfl rfl ⟨hk03, H1.size, _, rfl, hs1, hE, Lab.In.opt (hIk.mono (by omega)) (fun h => by have := hvl h; omega), ?_, c, vp, q, hB3, ?_, hv.keep hk03 (fun _ h => h), fun h => Lab.opt_at h, hq.mono fun _ _ hb => (hb.lab hE.old).keepN hk03⟩
      · exact hA2
      · refine (hKk.lab (fun x hx => Lab.opt_ne fun h e => hx ?_)).keep hk3 (fun x hx e => ?_)
        · rw [e, hEk.low _ (hvl h)]; exact (hf h).1
        · rw [e, hA2] at hx
          simp at hx
    · have hps := hO.short (by intro e; subst e; simp at h8)
      have hN0 : 0 < N := by omega
      rw [BT.built_node (by omega) (by omega)]
      repeat (first | refine za ?_ | refine zb ?_ | refine zc ?_ | refine zj ?_ | refine zl ?_ | refine zm ?_ | refine zn ?_ | refine zs ?_ | refine zt ?_ | refine zu ?_ | refine zv ?_ | refine zw ?_ | refine zx ?_ | refine zy ?_ | refine zz ?_ | refine zza ?_ | refine zzb ?_ | refine zzc ?_ | refine zzd ?_ | refine zze ?_ | refine zzf ?_ | refine zzg ?_)
      refine x_makeMap rfl rfl trivial ?_
      intro H3 hM3 hk3 hs3
      refine ⟨trivial, ?_⟩
      repeat (first | refine za ?_ | refine zb ?_ | refine zc ?_ | refine zj ?_ | refine zl ?_ | refine zm ?_ | refine zn ?_ | refine zs ?_ | refine zt ?_ | refine zu ?_ | refine zv ?_ | refine zw ?_ | refine zx ?_ | refine zy ?_ | refine zz ?_ | refine zza ?_ | refine zzb ?_ | refine zzc ?_ | refine zzd ?_ | refine zze ?_ | refine zzf ?_ | refine zzg ?_)
      refine x_store rfl rfl rfl rfl (hn2.blk.keep hk3 (fun h => h)) (by simp) trivial ?_
      intro H4 hB4 hk4 hs4
      refine ⟨trivial, ?_⟩
      obtain ⟨Lm, hLm⟩ : ∃ Lm, Lm = Lk.set H2.size (3, w) := ⟨_, rfl⟩
      have hEm : Lab.Ext H.size L Lm := by rw [hLm]; exact hEk.trans (Lab.Ext.set (hIk.off (Nat.le_refl _)) (by omega))
      have hIm : Lm.In H4 := by rw [hLm]; exact Lab.In.set (hIk.mono (by omega)) (by omega)
      have hkm : ∀ x, Lk x ≠ none → Lm x = Lk x := by rw [hLm]; exact (Lab.Ext.set (B := 0) (hIk.off (Nat.le_refl _)) (Nat.zero_le _)).old
      have hAm : Lm H1.size = some (1, w) := by rw [hkm _ (by rw [hAk]; simp)]; exact hAk
      have hMm : Lm H2.size = some (3, w) := by rw [hLm]; exact Lab.set_at
      have hM4 : Kd H4 H2.size (fun _ => none) := hM3.keep hk4 (by omega)
      have hk04 : Keep Non H H4 := keep_at (hk2.non_trans hk3) hk4 hs1
      have hKm : KL Lm H4 c w := ((hKk.keepN hk3).lab hkm).keep hk4 (fun x hx e => by rw [e, hAm] at hx; simp at hx)
      have hP4 : PsK (KL Lm H4) H4 vp ps := ⟨sP, q, hq.mono fun _ _ hb => (hb.lab hEm.old).keepN hk04, hv.cels.keep hk04 (fun _ h => h)⟩
      obtain ⟨p0, rest, rfl⟩ : ∃ p0 rest, ps = p0 :: rest := by
        cases ps with
        | nil => simp at h8
        | cons p0 rest => exact ⟨p0, rest, rfl⟩
      obtain ⟨hd1, hd2, hd3⟩ := hO.head
      obtain ⟨k0, a1, a2, a3⟩ := (hP4.ps fun _ _ hb => hb.1).at_ 0 p0 rfl
      have s0 := a3.sl
      repeat (first | refine za ?_ | refine zb ?_ | refine zc ?_ | refine zj ?_ | refine zl ?_ | refine zm ?_ | refine zn ?_ | refine zs ?_ | refine zt ?_ | refine zu ?_ | refine zv ?_ | refine zw ?_ | refine zx ?_ | refine zy ?_ | refine zz ?_ | refine zza ?_ | refine zzb ?_ | refine zzc ?_ | refine zzd ?_ | refine zze ?_ | refine zzf ?_ | refine zzg ?_)
      refine x_load rfl rfl (hpmt (a1)) rfl trivial ?_
      repeat (first | refine za ?_ | refine zb ?_ | refine zc ?_ | refine zj ?_ | refine zl ?_ | refine zm ?_ | refine zn ?_ | refine zs ?_ | refine zt ?_ | refine zu ?_ | refine zv ?_ | refine zw ?_ | refine zx ?_ | refine zy ?_ | refine zz ?_ | refine zza ?_ | refine zzb ?_ | refine zzc ?_ | refine zzd ?_ | refine zze ?_ | refine zzf ?_ | refine zzg ?_)
      have hgrp1 : ∀ d, p0.1.length = w.length → BT.grp w d ([p0]) = [] := fun d e => BT.grp_no fun p hp e' => by
        simp at hp
        subst hp
        rw [List.getElem?_eq_none (by omega)] at e'
        cases e'
      refine cw_cut (fun s : Nat × Value => [(0, vk), (1, s.2), (5, ptr H1.size 0)]) (fun s H' => BldJ L H w (p0 :: rest) H1.size H2.size c (fnd (p0 :: rest) w) s.1 s.2 (fun _ => none) Lm H') ?_ ?_
      · have hcut1 : ∀ {u : Value}, IsSl u (rest.length + 1 - 1) → CutOf u vp 1 2 → ∀ {H' : Heap}, PsK (KL Lm H') H' vp (p0 :: rest) → PsK (KL Lm H') H' u rest := fun {u} hu hcu {H'} hP => by
          have := hP.cut (a := 1) (b := rest.length + 1) hu hcu (by omega) (by simp)
          simpa using this
        refine cw_cond rfl (fun h1 => ?_) (fun h1 => ?_) <;> (try simp at h1)
        · have h1' : p0.1.length = w.length := by omega
          obtain ⟨e1, e2⟩ := hd2 h1'
          rw [e2]
          repeat (first | refine za ?_ | refine zb ?_ | refine zc ?_ | refine zj ?_ | refine zl ?_ | refine zm ?_ | refine zn ?_ | refine zs ?_ | refine zt ?_ | refine zu ?_ | refine zv ?_ | refine zw ?_ | refine zx ?_ | refine zy ?_ | refine zz ?_ | refine zza ?_ | refine zzb ?_ | refine zzc ?_ | refine zzd ?_ | refine zze ?_ | refine zzf ?_ | refine zzg ?_)
          refine x_load rfl rfl (hpmt (a2)) rfl trivial ?_
          repeat (first | refine za ?_ | refine zb ?_ | refine zc ?_ | refine zj ?_ | refine zl ?_ | refine zm ?_ | refine zn ?_ | refine zs ?_ | refine zt ?_ | refine zu ?_ | refine zv ?_ | refine zw ?_ | refine zx ?_ | refine zy ?_ | refine zz ?_ | refine zza ?_ | refine zzb ?_ | refine zzc ?_ | refine zzd ?_ | refine zze ?_ | refine zzf ?_ | refine zzg ?_)
          refine x_store rfl rfl rfl rfl hB4 (by simp) trivial ?_
          intro H5 hB5 hk5 hs5
          refine ⟨trivial, ?_⟩
          repeat (first | refine za ?_ | refine zb ?_ | refine zc ?_ | refine zj ?_ | refine zl ?_ | refine zm ?_ | refine zn ?_ | refine zs ?_ | refine zt ?_ | refine zu ?_ | refine zv ?_ | refine zw ?_ | refine zx ?_ | refine zy ?_ | refine zz ?_ | refine zza ?_ | refine zzb ?_ | refine zzc ?_ | refine zzd ?_ | refine zze ?_ | refine zzf ?_ | refine zzg ?_)
          refine x_store rfl rfl rfl rfl hB5 (by simp) trivial ?_
          intro H6 hB6 hk6 hs6
          refine ⟨trivial, ?_⟩
          repeat (first | refine za ?_ | refine zb ?_ | refine zc ?_ | refine zj ?_ | refine zl ?_ | refine zm ?_ | refine zn ?_ | refine zs ?_ | refine zt ?_ | refine zu ?_ | refine zv ?_ | refine zw ?_ | refine zx ?_ | refine zy ?_ | refine zz ?_ | refine zza ?_ | refine zzb ?_ | refine zzc ?_ | refine zzd ?_ | refine zze ?_ | refine zzf ?_ | refine zzg ?_)
          refine x_slice_l rfl rfl rfl sP (by omega) (by simp only [List.length_cons]; omega) rfl trivial ?_
          intro u hu hcu
          have hk46 : Keep (· = H1.size) H4 H6 := hk5.step hk6 (fun _ _ e => e)
          have hKS : ∀ x, Lm x = some (0, []) → ¬ x = H1.size := fun x hx e => by rw [e, hAm] at hx; simp at hx
          have hP6 : PsK (KL Lm H6) H6 vp (p0 :: rest) := hP4.stepS (fun _ _ hb => hb.keep hk46 hKS) hk46 (fun _ => by
            have := hvl (by have := sP.cap; simp at this; omega)
            omega)
          repeat (first | refine za ?_ | refine zb ?_ | refine zc ?_ | refine zj ?_ | refine zl ?_ | refine zm ?_ | refine zn ?_ | refine zs ?_ | refine zt ?_ | refine zu ?_ | refine zv ?_ | refine zw ?_ | refine zx ?_ | refine zy ?_ | refine zz ?_ | refine zza ?_ | refine zzb ?_ | refine zzc ?_ | refine zzd ?_ | refine zze ?_ | refine zzf ?_ | refine zzg ?_)
          refine nw_meet (1, u) (by repeat (first | exact True.intro | refine ⟨rfl, ?_⟩)) ⟨by simp, keep_at hk04 hk46 hs1, hB6, hKm.keep hk46 hKS, hIm.mono (by omega), hEm, hAm, hMm, hM4.keep hk46 (by omega), hcut1 hu hcu hP6, fun hne => ?_, hd1, fun d => .inl ?_, fun d => .inl ⟨?_, rfl⟩⟩
          · have hpos : 0 < rest.length := List.length_pos_iff.2 hne
            have g1 := sP.cap
            simp at g1
            obtain ⟨g2, _⟩ := hcu.at_ (by omega)
            show sb u < _
            rw [g2]
            exact hvl (by omega)
          · exact hgrp1 d h1'
          · exact hgrp1 d h1'
        · obtain ⟨e1, e2⟩ := hd3 (by omega)
          rw [e2]
          repeat (first | refine za ?_ | refine zb ?_ | refine zc ?_ | refine zj ?_ | refine zl ?_ | refine zm ?_ | refine zn ?_ | refine zs ?_ | refine zt ?_ | refine zu ?_ | refine zv ?_ | refine zw ?_ | refine zx ?_ | refine zy ?_ | refine zz ?_ | refine zza ?_ | refine zzb ?_ | refine zzc ?_ | refine zzd ?_ | refine zze ?_ | refine zzf ?_ | refine zzg ?_)
          refine nw_meet (0, vp) (by repeat (first | exact True.intro | refine ⟨rfl, ?_⟩)) ⟨by simp, hk04, hB4, hKm, hIm, hEm, hAm, hMm, hM4, hP4, fun hne => ?_, fun p hp => ?_, fun d => .inl rfl, fun d => .inl ⟨rfl, rfl⟩⟩
          · exact hvl (by have := sP.cap; simp at this; omega)
          · rcases List.mem_cons.1 hp with rfl | hp
            · exact e1
            · exact hd1 p hp
      rintro ⟨i0, u0⟩ H5 hJ
      dsimp only at hJ ⊢
      repeat (first | refine za ?_ | refine zb ?_ | refine zc ?_ | refine zj ?_ | refine zl ?_ | refine zm ?_ | refine zn ?_ | refine zs ?_ | refine zt ?_ | refine zu ?_ | refine zv ?_ | refine zw ?_ | refine zx ?_ | refine zy ?_ | refine zz ?_ | refine zza ?_ | refine zzb ?_ | refine zzc ?_ | refine zzd ?_ | refine zze ?_ | refine zzf ?_ | refine zzg ?_)
      generalize hps' : p0 :: rest = ps at *
      generalize hown : fnd ps w = own at *
      generalize hbb : H1.size = b at *
      generalize hmm : H2.size = m at *
      refine cw_loop (fun s : Nat × Value => [(0, vk), (1, s.2), (5, ptr b 0)]) (fun s H' => ∃ f L', BldJ L H w ps b m c own s.1 s.2 f L' H') (fun s => ps.length - s.1) (i0, u0) (by repeat (first | exact True.intro | refine ⟨rfl, ?_⟩)) ⟨_, _, hJ⟩ ?_
      clear hJ
      rintro ⟨i, u⟩ H6 ⟨f, L6, hJ⟩
      dsimp only at hJ ⊢
      have sU := hJ.row.sl
      rw [List.length_drop] at sU
      have cU := sU.cap
      have hile := hJ.le
      repeat (first | refine za ?_ | refine zb ?_ | refine zc ?_ | refine zj ?_ | refine zl ?_ | refine zm ?_ | refine zn ?_ | refine zs ?_ | refine zt ?_ | refine zu ?_ | refine zv ?_ | refine zw ?_ | refine zx ?_ | refine zy ?_ | refine zz ?_ | refine zza ?_ | refine zzb ?_ | refine zzc ?_ | refine zzd ?_ | refine zze ?_ | refine zzf ?_ | refine zzg ?_)
      refine cw_cond rfl (fun h2 => ?_) (fun h2 => ?_) <;> (try simp at h2)
      · obtain ⟨p, hp⟩ : ∃ p, ps[i]? = some p := ⟨_, List.getElem?_eq_getElem (by omega)⟩
        have hpd : (ps.drop i)[0]? = some p := by rw [List.getElem?_drop]; exact hp
        have hpl := hJ.long p (List.mem_of_getElem? hpd)
        obtain ⟨x, hx⟩ : ∃ x, p.1[w.length]? = some x := ⟨_, List.getElem?_eq_getElem hpl⟩
        obtain ⟨k1, b1, b2, b3⟩ := (hJ.row.ps fun _ _ hb => hb.1).at_ 0 p hpd
        have s1 := b3.sl
        repeat (first | refine za ?_ | refine zb ?_ | refine zc ?_ | refine zj ?_ | refine zl ?_ | refine zm ?_ | refine zn ?_ | refine zs ?_ | refine zt ?_ | refine zu ?_ | refine zv ?_ | refine zw ?_ | refine zx ?_ | refine zy ?_ | refine zz ?_ | refine zza ?_ | refine zzb ?_ | refine zzc ?_ | refine zzd ?_ | refine zze ?_ | refine zzf ?_ | refine zzg ?_)
        refine x_load rfl rfl (hpmt (b1)) rfl trivial ?_
        repeat (first | refine za ?_ | refine zb ?_ | refine zc ?_ | refine zj ?_ | refine zl ?_ | refine zm ?_ | refine zn ?_ | refine zs ?_ | refine zt ?_ | refine zu ?_ | refine zv ?_ | refine zw ?_ | refine zx ?_ | refine zy ?_ | refine zz ?_ | refine zza ?_ | refine zzb ?_ | refine zzc ?_ | refine zzd ?_ | refine zze ?_ | refine zzf ?_ | refine zzg ?_)
        refine x_load rfl rfl (hpmt (b3.get w.length x hx)) rfl trivial ?_
        repeat (first | refine za ?_ | refine zb ?_ | refine zc ?_ | refine zj ?_ | refine zl ?_ | refine zm ?_ | refine zn ?_ | refine zs ?_ | refine zt ?_ | refine zu ?_ | refine zv ?_ | refine zw ?_ | refine zx ?_ | refine zy ?_ | refine zz ?_ | refine zza ?_ | refine zzb ?_ | refine zzc ?_ | refine zzd ?_ | refine zze ?_ | refine zzf ?_ | refine zzg ?_)
        refine cw_loop (fun j : Nat => [(0, vk), (1, u), (5, ptr b 0), (6, kb x), (7, .int .i64 j)]) (fun j H' => H6 = H' ∧ i + j ≤ ps.length ∧ ∀ a, a < j → ∀ p, ps[i + a]? = some p → p.1[w.length]? = some x) (fun j => ps.length - j) 0 (by repeat (first | exact True.intro | refine ⟨rfl, ?_⟩)) ⟨rfl, by omega, fun a ha => by omega⟩ ?_
        rintro j _ ⟨rfl, hj, hall⟩
        repeat (first | refine za ?_ | refine zb ?_ | refine zc ?_ | refine zj ?_ | refine zl ?_ | refine zm ?_ | refine zn ?_ | refine zs ?_ | refine zt ?_ | refine zu ?_ | refine zv ?_ | refine zw ?_ | refine zx ?_ | refine zy ?_ | refine zz ?_ | refine zza ?_ | refine zzb ?_ | refine zzc ?_ | refine zze ?_ | refine zzf ?_ | refine zzg ?_)
        refine cw_cut (fun e : Bool => [(0, vk), (1, u), (5, ptr b 0), (6, kb x), (7, .int .i64 j), (71, .bool e)]) (fun e H' => H6 = H' ∧ (e = true → i + j < ps.length ∧ ∀ p, ps[i + j]? = some p → p.1[w.length]? = some x) ∧ (e = false → ∀ p, ps[i + j]? = some p → p.1[w.length]? ≠ some x)) ?_ ?_
        · repeat (first | refine za ?_ | refine zb ?_ | refine zc ?_ | refine zj ?_ | refine zl ?_ | refine zm ?_ | refine zn ?_ | refine zs ?_ | refine zt ?_ | refine zu ?_ | refine zv ?_ | refine zw ?_ | refine zx ?_ | refine zy ?_ | refine zz ?_ | refine zza ?_ | refine zzb ?_ | refine zzc ?_ | refine zzd ?_ | refine zze ?_ | refine zzf ?_ | refine zzg ?_)
          refine x_split 59 rfl (fun h3 => ?_) (fun h3 => ?_) <;> (try simp at h3)
          · obtain ⟨p', hp'⟩ : ∃ p, ps[i + j]? = some p := ⟨_, List.getElem?_eq_getElem (by omega)⟩
            have hpd' : (ps.drop i)[j]? = some p' := by rw [List.getElem?_drop]; exact hp'
            have hpl' := hJ.long p' (List.mem_of_getElem? hpd')
            obtain ⟨y, hy⟩ : ∃ y, p'.1[w.length]? = some y := ⟨_, List.getElem?_eq_getElem hpl'⟩
            obtain ⟨k2, d1, d2, d3⟩ := (hJ.row.ps fun _ _ hb => hb.1).at_ j p' hpd'
            have s2 := d3.sl
            repeat (first | refine za ?_ | refine zb ?_ | refine zc ?_ | refine zj ?_ | refine zl ?_ | refine zm ?_ | refine zn ?_ | refine zs ?_ | refine zt ?_ | refine zu ?_ | refine zv ?_ | refine zw ?_ | refine zx ?_ | refine zy ?_ | refine zz ?_ | refine zza ?_ | refine zzb ?_ | refine zzc ?_ | refine zzd ?_ | refine zze ?_ | refine zzf ?_ | refine zzg ?_)
            refine x_load rfl rfl (hpmt (d1)) rfl trivial ?_
            repeat (first | refine za ?_ | refine zb ?_ | refine zc ?_ | refine zj ?_ | refine zl ?_ | refine zm ?_ | refine zn ?_ | refine zs ?_ | refine zt ?_ | refine zu ?_ | refine zv ?_ | refine zw ?_ | refine zx ?_ | refine zy ?_ | refine zz ?_ | refine zza ?_ | refine zzb ?_ | refine zzc ?_ | refine zzd ?_ | refine zze ?_ | refine zzf ?_ | refine zzg ?_)
            refine x_load rfl rfl (hpmt (d3.get w.length y hy)) rfl trivial ?_
            repeat (first | refine za ?_ | refine zb ?_ | refine zc ?_ | refine zj ?_ | refine zl ?_ | refine zm ?_ | refine zn ?_ | refine zs ?_ | refine zt ?_ | refine zu ?_ | refine zv ?_ | refine zw ?_ | refine zx ?_ | refine zy ?_ | refine zz ?_ | refine zza ?_ | refine zzb ?_ | refine zzc ?_ | refine zzd ?_ | refine zze ?_ | refine zzf ?_ | refine zzg ?_)
            refine nw_meet (((y.toNat : Int) == (x.toNat : Int))) (by repeat (first | exact True.intro | refine ⟨rfl, ?_⟩)) ⟨rfl, fun e => ⟨by omega, fun p hp => ?_⟩, fun e p hp => ?_⟩
            · rw [hp'] at hp
              cases hp
              have e2 : y = x := UInt8.toNat_inj.1 (by have := of_decide_eq_true e; omega)
              rw [hy, e2]
            · rw [hp'] at hp
              cases hp
              simp at e
              intro e'
              rw [hy] at e'
              cases e'
              exact e rfl
          · repeat (first | refine za ?_ | refine zb ?_ | refine zc ?_ | refine zj ?_ | refine zl ?_ | refine zm ?_ | refine zn ?_ | refine zs ?_ | refine zt ?_ | refine zu ?_ | refine zv ?_ | refine zw ?_ | refine zx ?_ | refine zy ?_ | refine zz ?_ | refine zza ?_ | refine zzb ?_ | refine zzc ?_ | refine zzd ?_ | refine zze ?_ | refine zzf ?_ | refine zzg ?_)
            refine nw_meet false (by repeat (first | exact True.intro | refine ⟨rfl, ?_⟩)) ⟨rfl, (fun e => nomatch e), fun _ p hp => ?_⟩
            have := (List.getElem?_eq_some_iff.1 hp).1
            omega
        rintro e _ ⟨rfl, ht, hf'⟩
        cases e with
        | true =>
          obtain ⟨g1, g2⟩ := ht rfl
          repeat (first | refine za ?_ | refine zb ?_ | refine zc ?_ | refine zj ?_ | refine zl ?_ | refine zm ?_ | refine zn ?_ | refine zs ?_ | refine zt ?_ | refine zu ?_ | refine zv ?_ | refine zw ?_ | refine zx ?_ | refine zy ?_ | refine zz ?_ | refine zza ?_ | refine zzb ?_ | refine zzc ?_ | refine zzd ?_ | refine zze ?_ | refine zzf ?_ | refine zzg ?_)
          refine nw_round (j + 1) (by repeat (first | exact True.intro | refine ⟨rfl, ?_⟩)) ⟨rfl, by omega, fun a ha p hp => ?_⟩ (by omega)
          by_cases haj : a = j
          · subst haj; exact g2 p hp
          · exact hall a (by omega) p hp
        | false =>
          have hend := hf' rfl
          have hj0 : 0 < j := by
            rcases Nat.eq_zero_or_pos j with h | h
            · subst h; exact absurd hx (hend p hp)
            · exact h
          have hst := BT.parted_step hO hJ.long hj hj0 hall hend hJ.parted
          have c4 : cel H6 b 4 = some (.map (some m)) := by rw [hJ.blk.cel]; rfl
          have hkr := Keep.refl Non H6
          have hKv := hK.keepN hJ.keep
          repeat (first | refine za ?_ | refine zb ?_ | refine zc ?_ | refine zj ?_ | refine zl ?_ | refine zm ?_ | refine zn ?_ | refine zs ?_ | refine zt ?_ | refine zu ?_ | refine zv ?_ | refine zw ?_ | refine zx ?_ | refine zy ?_ | refine zz ?_ | refine zza ?_ | refine zzb ?_ | refine zzc ?_ | refine zze ?_ | refine zzf ?_ | refine zzg ?_)
          refine cw_cut (fun _ : Unit => [(0, vk), (1, u), (5, ptr b 0), (7, .int .i64 j)]) (fun _ H' => ∃ f L', BldM L H w ps b m c own i j u f L' H') ?_ ?_
          · refine cw_held (fun _ => Keep Non H6) ⟨[6, 8, 9, 13, 14, 15], [(3, 0)]⟩ (.op 0 (.op 1 (.op 2 (.op 3 (.op 4 (.op 5 (.op 7 (.op 10 (.op 11 (.op 12 (.alt (.op 6 (.op 8 (.op 9 (.op 13 (.op 14 (.op 15 (.nil))))))) (.op 8 (.op 6 (.op 9 (.op 13 (.op 14 (.op 15 (.nil)))))))))))))))))) panicOk_body mixed (by kernel_rfl) ?_
            repeat (first | refine za ?_ | refine zb ?_ | refine zc ?_ | refine zj ?_ | refine zl ?_ | refine zm ?_ | refine zn ?_ | refine zs ?_ | refine zt ?_ | refine zu ?_ | refine zv ?_ | refine zw ?_ | refine zx ?_ | refine zy ?_ | refine zz ?_ | refine zza ?_ | refine zzb ?_ | refine zzc ?_ | refine zzd ?_ | refine zze ?_ | refine zzf ?_ | refine zzg ?_)
            refine x_load rfl rfl (hpmk rfl (fun _ hk => hk.cel c4 (fun h => h))) rfl (okq_load rfl rfl (by assumption)) ?_
            repeat (first | refine za ?_ | refine zb ?_ | refine zc ?_ | refine zj ?_ | refine zl ?_ | refine zm ?_ | refine zn ?_ | refine zs ?_ | refine zt ?_ | refine zu ?_ | refine zv ?_ | refine zw ?_ | refine zx ?_ | refine zy ?_ | refine zz ?_ | refine zza ?_ | refine zzb ?_ | refine zzc ?_ | refine zzd ?_ | refine zze ?_ | refine zzf ?_ | refine zzg ?_)
            refine x_slice_h rfl rfl rfl (by assumption) (by omega) (by omega) rfl (okq_reg rfl rfl) ?_
            intro u3 hu3 hcu3
            have hU3 := hJ.row.cut (a := 0) (b := j) hu3 hcu3 (by omega) (by rw [List.length_drop]; omega)
            rw [List.drop_zero] at hU3
            obtain ⟨q3, k3, c3⟩ := hU3.row
            have hlen3 : ((ps.drop i).take j).length = j := by rw [List.length_take, List.length_drop]; omega
            have hq3 : q3.length = j := k3.len.trans hlen3
            obtain ⟨hL6, hL6e⟩ : ∃ hL6, hL6 = L6 := ⟨_, rfl⟩
            subst hL6e
            have hOx : BT.Ok (w ++ [x]) ((ps.drop i).take j) := by
              rw [← hst.here]
              refine (BT.Ok.sub hO (fun p hp => List.mem_of_mem_take hp) ?_).grp x
              exact rises_pw.2 ((rises_pw.1 hO.rise).sublist (List.take_sublist _ _))
            have hne3 : (ps.drop i).take j ≠ [] := fun e => by rw [e] at hlen3; simp at hlen3; omega
            repeat (first | refine za ?_ | refine zb ?_ | refine zc ?_ | refine zj ?_ | refine zl ?_ | refine zm ?_ | refine zn ?_ | refine zs ?_ | refine zt ?_ | refine zu ?_ | refine zv ?_ | refine zw ?_ | refine zx ?_ | refine zy ?_ | refine zz ?_ | refine zza ?_ | refine zzb ?_ | refine zzc ?_ | refine zzd ?_ | refine zze ?_ | refine zzf ?_ | refine zzg ?_)
            refine x_alt ?_ ?_
            · refine x_call rfl rfl rfl ⟨rfl, rfl⟩ (slices_Clone hKv (by omega)) ?_
              rintro ck H7 ⟨hk7, hck, hfk⟩
              refine ⟨okm_keep hk7 (fun _ _ h => h), ?_⟩
              refine x_buildSlice rfl rfl rfl rfl (by omega) (by simp [oneC, Value.oneCell']) rfl ⟨rfl, rfl⟩ ?_
              intro H8 hn8
              refine ⟨okm_keep hn8.keep (fun _ _ h => h.elim), ?_⟩
              have hck8 : Own 1 H8 ck w.length (bvs w) := hck.keep hn8.keep (fun _ h => h)
              have hb8 : Blk H8 H7.size [kb x] := hn8.blk
              have hk8 : Keep Non H6 H8 := hn8.old hk7
              refine x_append (by rfl) (by rfl) (by rfl) rfl rfl rfl hck8 (isSl_some (Nat.le_refl _) (by omega)) (m := 1) (cx := [kb x]) rfl (hb8.cels 0 1 (by simp)) (by simp [oneC, Value.oneCell']) (by omega) rfl ⟨rfl, rfl⟩ ?_
              intro vw H9 hap
              have hk9 : Keep Non H6 H9 := hap.old hfk hk8
              refine ⟨okm_keep hap.keep (fun b hb e => by have := hfk (by omega); have := e.1; omega), ?_⟩
              have hW9 : Bs H9 vw (w ++ [x]) := by
                have h1 : Own 1 H9 vw (w ++ [x]).length (bvs (w ++ [x])) := by rw [bvs_append, List.length_append]; exact hap.own
                exact h1.bs
              repeat (first | refine za ?_ | refine zb ?_ | refine zc ?_ | refine zj ?_ | refine zl ?_ | refine zm ?_ | refine zn ?_ | refine zs ?_ | refine zt ?_ | refine zu ?_ | refine zv ?_ | refine zw ?_ | refine zx ?_ | refine zy ?_ | refine zz ?_ | refine zza ?_ | refine zzb ?_ | refine zzc ?_ | refine zzd ?_ | refine zze ?_ | refine zzf ?_ | refine zzg ?_)
              refine x_call rfl rfl rfl ⟨rfl, rfl⟩ (slices_CloneP hu3 hq3 (c3.keep hk9 (fun _ h => h)) (pcs_oneC k3 fun v b h => isSl_oneC h.1.sl) (by omega)) ?_
              rintro v3 H10 ⟨hk10, hv3, hf3⟩
              refine ⟨okm_keep hk10 (fun _ _ h => h), ?_⟩
              have hs9 := hk9.size
              have hs10 := hk10.size
              have hk610 := hk9.non_trans hk10
              refine x_call rfl rfl rfl ⟨rfl, rfl⟩ (ih (N - 1) (by omega) (B := H9.size) (L := hL6) (w := w ++ [x]) (ps := (ps.drop i).take j) (by simp; omega) hOx (hW9.keepN hk10) (by rw [hlen3]; exact hv3) (k3.mono fun _ _ hb => hb.keepN hk610) (hJ.lin.mono (by omega)) (fun hc => ⟨hJ.lin.off (by have := hf3 hc; omega), hf3 hc⟩) hs10 (by rw [hlen3]; omega)) ?_
              rintro _ H11 ⟨hk11, bx, L11, rfl, hbx, hE11, hI11, hT11⟩
              refine ⟨okm_keep hk11 (fun _ _ h => h), ?_⟩
              have hk611 := hk610.non_trans hk11
              refine x_mapUpdate rfl rfl rfl rfl (hJ.kd.keep hk611 (fun h => h)) ⟨rfl, rfl⟩ ?_
              intro H12 hM12 hk12 hs12
              refine ⟨okm_free (fun c => by cases c <;> kernel_rfl), ?_⟩
              repeat (first | refine za ?_ | refine zb ?_ | refine zc ?_ | refine zj ?_ | refine zl ?_ | refine zm ?_ | refine zn ?_ | refine zs ?_ | refine zt ?_ | refine zu ?_ | refine zv ?_ | refine zw ?_ | refine zx ?_ | refine zy ?_ | refine zz ?_ | refine zza ?_ | refine zzb ?_ | refine zzc ?_ | refine zzd ?_ | refine zze ?_ | refine zzf ?_ | refine zzg ?_)
              repeat (first | refine za ?_ | refine zb ?_ | refine zc ?_ | refine zj ?_ | refine zl ?_ | refine zm ?_ | refine zn ?_ | refine zs ?_ | refine zt ?_ | refine zu ?_ | refine zv ?_ | refine zw ?_ | refine zx ?_ | refine zy ?_ | refine zz ?_ | refine zza ?_ | refine zzb ?_ | refine zzc ?_ | refine zzd ?_ | refine zze ?_ | refine zzf ?_ | refine zzg ?_)
              refine nw_meet () (by repeat (first | exact True.intro | refine ⟨rfl, ?_⟩)) (bld_step hst hJ hk611 (hE11.mono hs9) hI11 hT11 hk12 hM12 (by omega) hne3)
            · refine x_buildSlice rfl rfl rfl rfl (by omega) (by simp [oneC, Value.oneCell']) rfl ⟨rfl, rfl⟩ ?_
              intro H7 hn7
              refine ⟨okm_keep hn7.keep (fun _ _ h => h.elim), ?_⟩
              refine x_call rfl rfl rfl ⟨rfl, rfl⟩ (slices_Clone (hKv.keepN hn7.keep) (by omega)) ?_
              rintro ck H8 ⟨hk78, hck8, hfk7⟩
              refine ⟨okm_keep hk78 (fun _ _ h => h), ?_⟩
              have hb8 : Blk H8 H6.size [kb x] := hn7.blk.keep hk78 (fun h => h)
              have hk8 : Keep Non H6 H8 := hn7.keep.non_trans hk78
              have hfk : Fresh H6 ck := fun hc => by have := hfk7 hc; have := hn7.size; omega
              refine x_append (by rfl) (by rfl) (by rfl) rfl rfl rfl hck8 (isSl_some (Nat.le_refl _) (by omega)) (m := 1) (cx := [kb x]) rfl (hb8.cels 0 1 (by simp)) (by simp [oneC, Value.oneCell']) (by omega) rfl ⟨rfl, rfl⟩ ?_
              intro vw H9 hap
              have hk9 : Keep Non H6 H9 := hap.old hfk hk8
              refine ⟨okm_keep hap.keep (fun b hb e => by have := hfk (by omega); have := e.1; omega), ?_⟩
              have hW9 : Bs H9 vw (w ++ [x]) := by
                have h1 : Own 1 H9 vw (w ++ [x]).length (bvs (w ++ [x])) := by rw [bvs_append, List.length_append]; exact hap.own
                exact h1.bs
              repeat (first | refine za ?_ | refine zb ?_ | refine zc ?_ | refine zj ?_ | refine zl ?_ | refine zm ?_ | refine zn ?_ | refine zs ?_ | refine zt ?_ | refine zu ?_ | refine zv ?_ | refine zw ?_ | refine zx ?_ | refine zy ?_ | refine zz ?_ | refine zza ?_ | refine zzb ?_ | refine zzc ?_ | refine zzd ?_ | refine zze ?_ | refine zzf ?_ | refine zzg ?_)
              refine x_call rfl rfl rfl ⟨rfl, rfl⟩ (slices_CloneP hu3 hq3 (c3.keep hk9 (fun _ h => h)) (pcs_oneC k3 fun v b h => isSl_oneC h.1.sl) (by omega)) ?_
              rintro v3 H10 ⟨hk10, hv3, hf3⟩
              refine ⟨okm_keep hk10 (fun _ _ h => h), ?_⟩
              have hs9 := hk9.size
              have hs10 := hk10.size
              have hk610 := hk9.non_trans hk10
              refine x_call rfl rfl rfl ⟨rfl, rfl⟩ (ih (N - 1) (by omega) (B := H9.size) (L := hL6) (w := w ++ [x]) (ps := (ps.drop i).take j) (by simp; omega) hOx (hW9.keepN hk10) (by rw [hlen3]; exact hv3) (k3.mono fun _ _ hb => hb.keepN hk610) (hJ.lin.mono (by omega)) (fun hc => ⟨hJ.lin.off (by have := hf3 hc; omega), hf3 hc⟩) hs10 (by rw [hlen3]; omega)) ?_
              rintro _ H11 ⟨hk11, bx, L11, rfl, hbx, hE11, hI11, hT11⟩
              refine ⟨okm_keep hk11 (fun _ _ h => h), ?_⟩
              have hk611 := hk610.non_trans hk11
              refine x_mapUpdate rfl rfl rfl rfl (hJ.kd.keep hk611 (fun h => h)) ⟨rfl, rfl⟩ ?_
              intro H12 hM12 hk12 hs12
              refine ⟨okm_free (fun c => by cases c <;> kernel_rfl), ?_⟩
              repeat (first | refine za ?_ | refine zb ?_ | refine zc ?_ | refine zj ?_ | refine zl ?_ | refine zm ?_ | refine zn ?_ | refine zs ?_ | refine zt ?_ | refine zu ?_ | refine zv ?_ | refine zw ?_ | refine zx ?_ | refine zy ?_ | refine zz ?_ | refine zza ?_ | refine zzb ?_ | refine zzc ?_ | refine zzd ?_ | refine zze ?_ | refine zzf ?_ | refine zzg ?_)
              repeat (first | refine za ?_ | refine zb ?_ | refine zc ?_ | refine zj ?_ | refine zl ?_ | refine zm ?_ | refine zn ?_ | refine zs ?_ | refine zt ?_ | refine zu ?_ | refine zv ?_ | refine zw ?_ | refine zx ?_ | refine zy ?_ | refine zz ?_ | refine zza ?_ | refine zzb ?_ | refine zzc ?_ | refine zzd ?_ | refine zze ?_ | refine zzf ?_ | refine zzg ?_)
              refine nw_meet () (by repeat (first | exact True.intro | refine ⟨rfl, ?_⟩)) (bld_step hst hJ hk611 (hE11.mono hs9) hI11 hT11 hk12 hM12 (by omega) hne3)
          · rintro _ H9 ⟨f', L', hJ'⟩
            repeat (first | refine za ?_ | refine zb ?_ | refine zc ?_ | refine zj ?_ | refine zl ?_ | refine zm ?_ | refine zn ?_ | refine zs ?_ | refine zt ?_ | refine zu ?_ | refine zv ?_ | refine zw ?_ | refine zx ?_ | refine zy ?_ | refine zz ?_ | refine zza ?_ | refine zzb ?_ | refine zzc ?_ | refine zzd ?_ | refine zze ?_ | refine zzf ?_ | refine zzg ?_)
            refine x_slice_l rfl rfl rfl sU (by omega) (by omega) rfl trivial ?_
            intro u' hu' hcu'
            have hcutr : PsK (KL L' H9) H9 u' (ps.drop (i + j)) := by
              have := hJ'.row.cut (a := j) (b := ps.length - i) (by simpa using hu') (by simpa using hcu') (by omega) (by rw [List.length_drop]; omega)
              rw [List.take_of_length_le (by rw [List.length_drop]; omega), List.drop_drop] at this
              exact this
            repeat (first | refine za ?_ | refine zb ?_ | refine zc ?_ | refine zj ?_ | refine zl ?_ | refine zm ?_ | refine zn ?_ | refine zs ?_ | refine zt ?_ | refine zu ?_ | refine zv ?_ | refine zw ?_ | refine zx ?_ | refine zy ?_ | refine zz ?_ | refine zza ?_ | refine zzb ?_ | refine zzc ?_ | refine zzd ?_ | refine zze ?_ | refine zzf ?_ | refine zzg ?_)
            refine nw_round (i + j, u') (by repeat (first | exact True.intro | refine ⟨rfl, ?_⟩)) ⟨f', L', hj, hJ'.keep, hJ'.blk, hJ'.key, hJ'.lin, hJ'.ext, hJ'.lb, hJ'.lm, hJ'.kd, hcutr, fun hne => ?_, fun p hp => ?_, hst.parted, hJ'.kids⟩ (by show ps.length - (i + j) < ps.length - i; omega)
            · have hne : ps.drop (i + j) ≠ [] := hne
              have h1 := List.length_pos_iff.2 hne
              rw [List.length_drop] at h1
              obtain ⟨g1, _⟩ := hcu'.at_ (by omega)
              show sb u' < _
              rw [g1]
              exact hJ.low (fun e => by have := congrArg List.length e; rw [List.length_drop] at this; simp at this; omega)
            · have hp : p ∈ ps.drop (i + j) := hp
              rw [← List.drop_drop] at hp
              exact hJ.long p (List.mem_of_mem_drop hp)
      · have hie : i = ps.length := by omega
        subst hie
        have htk := List.take_length (l := ps)
        repeat (first | refine za ?_ | refine zb ?_ | refine zc ?_ | refine zj ?_ | refine zl ?_ | refine zm ?_ | refine zn ?_ | refine zs ?_ | refine zt ?_ | refine zu ?_ | refine zv ?_ | refine zw ?_ | refine zx ?_ | refine zy ?_ | refine zz ?_ | refine zza ?_ | refine zzb ?_ | refine zzc ?_ | refine zzd ?_ | refine zze ?_ | refine zzf ?_ | refine zzg ?_)
        refine cw_ret1 rfl rfl ⟨hJ.keep, b, L6, rfl, by omega, hJ.ext.mono hB, hJ.lin, hJ.lb, c, m, f, hJ.blk, hJ.key, hJ.lm, hJ.kd, fun d => ?_⟩
        have hkd := hJ.kids d
        rw [List.take_length] at hkd
        rcases hkd with ⟨h1, h2⟩ | ⟨h1, y, h2, h3⟩
        · exact .inl ⟨h2, if_pos h1⟩
        · exact .inr ⟨y, h2, by dsimp only; rw [if_neg h1]; exact h3⟩
end Go.Proofs.Ytaloblomncjgkaa.X
