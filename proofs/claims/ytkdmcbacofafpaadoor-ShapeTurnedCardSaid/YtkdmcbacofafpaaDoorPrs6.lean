/- The plain map of chapter 7, and whose blocks it takes: Put, New, Drop. -/
import Derived.Test.YtkdmcbacofafpaaDoorPrs5
import Derived.Test.YtkdmcbacofafpaaDoorKmrg2
namespace Go.Proofs.YtkdmcbacofafpaaDoor.X
open Go Go.Proofs
set_option linter.unusedVariables false
set_option maxRecDepth 10000
set_option maxHeartbeats 2000000

/-- all new blocks take part 1 -/
def _root_.Go.Proofs.YtkdmcbacofafpaaDoor.X.Role.new (W : Role) (H H' : Heap) : Role := fun z => if z < H.size then W z else if z < H'.size then 1 else 0
theorem _root_.Go.Proofs.YtkdmcbacofafpaaDoor.X.Role.new_old {W : Role} {H H' : Heap} {z : Nat} (h : W z ≠ 0) (hW : W.In H) : (W.new H H') z ≠ 0 := by
  unfold Role.new
  rw [if_pos (hW z h)]
  exact h
theorem _root_.Go.Proofs.YtkdmcbacofafpaaDoor.X.Role.new_at (W : Role) (H H' : Heap) {z : Nat} (h1 : H.size ≤ z) (h2 : z < H'.size) : (W.new H H') z ≠ 0 := by
  unfold Role.new
  rw [if_neg (by omega), if_pos h2]
  omega
theorem _root_.Go.Proofs.YtkdmcbacofafpaaDoor.X.Role.new_ext (W : Role) {H H' : Heap} (h : H.size ≤ H'.size) : W.Ext (W.new H H') H H' := ⟨fun b hb => by unfold Role.new; rw [if_pos hb], h⟩
theorem _root_.Go.Proofs.YtkdmcbacofafpaaDoor.X.Role.new_in {W : Role} {H H' : Heap} (hW : W.In H) (h : H.size ≤ H'.size) : (W.new H H').In H' := fun z hz => by
  unfold Role.new at hz
  split at hz
  · omega
  · split at hz
    · assumption
    · exact absurd rfl hz
theorem _root_.Go.Proofs.YtkdmcbacofafpaaDoor.X.Role.new_from {H H' : Heap} {z : Nat} (hz : (Role.new (fun _ => 0) H H') z ≠ 0) : H.size ≤ z := by
  unfold Role.new at hz
  split at hz
  · exact absurd rfl hz
  · omega

/-- a row of pairs that may be read, of whose keys K is known -/
structure PsK (K : Value → Bytes → Prop) (H : Heap) (v : Value) (l : List Pr) : Prop where
  sl : IsSl v l.length
  row : ∃ q, Pk K q l ∧ Cels H (sb v) (so v) (pcs q)
theorem PsK.nil (K : Value → Bytes → Prop) (H : Heap) : PsK K H (.slice none 0 0) [] := ⟨isSl_nil, [], Pk.nil _, Cels.nil _ _ _⟩
theorem PsK.ps {K : Value → Bytes → Prop} {H : Heap} {v : Value} {l : List Pr} (h : PsK K H v l) (hm : ∀ v b, K v b → Bs H v b) : Ps H v l := let ⟨q, h1, h2⟩ := h.row; ⟨h.sl, q, h1.mono hm, h2⟩
theorem PsK.step {K K' : Value → Bytes → Prop} {H H' : Heap} {v : Value} {l : List Pr} (h : PsK K H v l) (hm : ∀ v b, K v b → K' v b) (k : Keep Non H H') : PsK K' H' v l :=
  let ⟨q, h1, h2⟩ := h.row; ⟨h.sl, q, h1.mono hm, h2.keep k (fun _ h => h)⟩
theorem PsK.stepS {K K' : Value → Bytes → Prop} {S : Nat → Prop} {H H' : Heap} {v : Value} {l : List Pr} (h : PsK K H v l) (hm : ∀ v b, K v b → K' v b) (k : Keep S H H') (hS : l ≠ [] → ¬ S (sb v)) : PsK K' H' v l := by
  obtain ⟨q, h1, h2⟩ := h.row
  refine ⟨h.sl, q, h1.mono hm, h2.keep k (fun e => hS (fun e' => e ?_))⟩
  subst e'
  have := h1.len
  simp at this
  subst this
  rfl
theorem PsK.cut {K : Value → Bytes → Prop} {H : Heap} {v u : Value} {l : List Pr} {a b : Nat} (h : PsK K H v l) (hu : IsSl u (b - a)) (hc : CutOf u v a 2) (hab : a ≤ b) (hb : b ≤ l.length) : PsK K H u ((l.take b).drop a) := by
  obtain ⟨q, h1, h2⟩ := h.row
  refine ⟨by simpa [Nat.min_eq_left hb] using hu, (q.take b).drop a, (h1.take b).drop a, ?_⟩
  by_cases he : a = b
  · subst he
    have : (q.take a).drop a = [] := by simp
    rw [this]
    exact Cels.nil _ _ _
  · have hlt : a < sc v := by have := h.sl.cap.1; omega
    obtain ⟨e1, e2⟩ := hc.at_ hlt
    rw [e1, e2, ← pcs_drop, ← pcs_take]
    exact (h2.take (b * 2)).drop (a * 2)
/-- a key in a block of W's -/
def KW (W : Role) (H : Heap) (k : Value) (c : Bytes) : Prop := Bs H k c ∧ (c ≠ [] → W (sb k) ≠ 0)
/-- a map of chapter 7, all of it in blocks of W's -/
structure Mw (W : Role) (H : Heap) (b : Nat) (l : List Pr) : Prop where
  win : W.In H
  wb : W b ≠ 0
  row : ∃ u, Blk H b [u] ∧ PsK (KW W H) H u l ∧ (l ≠ [] → W (sb u) ≠ 0)
section mw
variable {W W' : Role} {H H' : Heap} {b : Nat} {l : List Pr}
theorem Mw.mp (h : Mw W H b l) : Mp H b l := let ⟨u, h1, h2, _⟩ := h.row; ⟨u, h1, h2.ps (fun _ _ h => h.1)⟩
theorem Mw.keep {S : Nat → Prop} (h : Mw W H b l) (k : Keep S H H') (hS : ∀ x, W x ≠ 0 → ¬ S x) : Mw W H' b l := by
  obtain ⟨u, h1, h2, h3⟩ := h.row
  exact ⟨h.win.mono k.size, h.wb, u, h1.keep k (hS _ h.wb), h2.stepS (fun _ _ hb => ⟨hb.1.keep k (fun hne => hS _ (hb.2 hne)), hb.2⟩) k (fun hne => hS _ (h3 hne)), h3⟩
theorem Mw.keepN (h : Mw W H b l) (k : Keep Non H H') : Mw W H' b l := h.keep k (fun _ _ h => h)
end mw

theorem ref_PutW {W : Role} {b : Nat} {vk : Value} {l : List Pr} {k : Bytes} {H : Heap} (x : Int) (hM : Mw W H b l) (hK : Bs H vk k) (hk : k.length ≤ 65535) (hl : l.length ≤ 100000) : Ret Tryd.prog 23 [ptr b 0, vk, .int .u64 x] H (fun v H' => v = .tuple #[.int .u64 ((getM l k).getD 0), .bool (there l k), .int .i64 0] ∧ Keep (· = b) H H' ∧ ∃ W', W.Ext W' H H' ∧ Mw W' H' b (putM l k x)) := by
  obtain ⟨u, hB, hPK, hWu⟩ := hM.row
  have hP := hPK.ps (fun _ _ h => h.1)
  have hW := hM.win
  have hwb := hM.wb
  have sU := hP.sl
  have cU := sU.cap
  have hle := rank_le l k
  refine ret_of Tryd.func23 rfl rfl rfl rfl ?_
  intro w0
  refine zrun ?_ ?_
  refine x_call rfl rfl rfl trivial (ref_May hK.sl) ?_
  rintro _ _ ⟨rfl, rfl⟩
  refine ⟨trivial, ?_⟩
  rw [decide_eq_true hk]
  refine zrun ?_ ?_
  refine x_append (by rfl) (by rfl) (by rfl) rfl rfl rfl (Own.nil 1 H) (hK).sl (by rw [bvs_length, Nat.mul_one]) (hK).at_ (bvs_oneC _) (by omega) rfl trivial ?_
  intro v1 H1 hap1
  refine ⟨trivial, ?_⟩
  have hk1 := hap1.old (Fresh.nil H) (Keep.refl _ _)
  refine zrun ?_ ?_
  refine x_build (cs := [v1, .int .u64 x]) rfl rfl rfl (two_oneC (isSl_oneC hap1.own.sl)) rfl trivial ?_
  refine x_alloc rfl rfl trivial ?_
  intro H2 hn2
  refine ⟨trivial, ?_⟩
  refine x_stores rfl rfl rfl rfl (two_oneC' (isSl_oneC hap1.own.sl)) hn2.blk (by simp) trivial ?_
  intro H3 hB3a hk3 hs3
  refine ⟨trivial, ?_⟩
  have hk2 := hn2.old hk1
  have hk03 : Keep Non H H3 := keep_at hk2 hk3 hk1.size
  have hK3 := hK.keepN hk03
  have hB3 := hB.keep hk03 (fun h => h)
  have hP3 := hP.keepN hk03
  have hM3 : Mp H3 b l := ⟨u, hB3, hP3⟩
  have hPK3 : PsK (KW W H3) H3 u l := hPK.step (fun _ _ hb => ⟨hb.1.keepN hk03, hb.2⟩) hk03
  have hown : Own 1 H3 v1 k.length (bvs k) := by
    have h := (hap1.own.keep hn2.keep (fun _ h => h)).keep hk3 (fun hc e => by
      have := hap1.own.lt hc
      omega)
    simpa using h
  have a0 : Cels H3 H1.size 0 [v1, .int .u64 x] := by
    have := hB3a.cels 0 2 (by simp [putL])
    simpa [putL] using this
  have hc0 : cel H3 b 0 = some u := by rw [hB3.cel]; rfl
  have hcA : k ≠ [] → H.size ≤ sb v1 ∧ sb v1 < H3.size := fun hne => by
    have h1 := List.length_pos_iff.2 hne
    have h2 := hap1.fresh (Fresh.nil H) (Nat.le_refl _)
    have h3 := hown.sl.cap
    exact ⟨h2 (by omega), hown.lt (by omega)⟩
  have hcB : k ≠ [] → sb v1 ≠ b := fun hne => by have := (hcA hne).1; have := hB.lt; omega
  have hKb : ∀ {kk : Value} {cc : Bytes}, KW W H3 kk cc → cc ≠ [] → sb kk ≠ b := fun hb hne e => bs_ne_slot hb.1 hne hB3 sU e
  clear hk3 hap1
  generalize H1.size = A at *
  generalize hcv : v1 = c at *
  have hkr := Keep.refl Non H3
  have htl : (l.take (rank l k)).length = rank l k := by simp; omega
  refine zrun ?_ ?_
  refine x_call rfl rfl rfl trivial (ref_Find hM3 hK3) ?_
  rintro _ _ ⟨rfl, rfl⟩
  refine ⟨trivial, ?_⟩
  refine zrun ?_ ?_
  rcases hth : there l k with _ | _
  · have hgn : getM l k = none := by
      unfold there at hth
      unfold getM
      cases h : l[rank l k]? with
      | none => rfl
      | some p =>
        rw [h] at hth
        have : ¬ p.1 = k := by simpa using hth
        simp [this]
    obtain ⟨nd, hnd⟩ : ∃ nd, nd = rank l k := ⟨_, rfl⟩
    have hdl : (l.drop nd).length = l.length - nd := by simp
    refine zrun ?_ ?_
    refine cw_held (fun _ => Keep Non H3) ⟨[7, 9, 10, 17, 20], [(4, 0), (8, 0), (14, 0)]⟩ (.op 0 (.op 1 (.op 2 (.op 3 (.op 4 (.op 5 (.op 6 (.op 8 (.op 11 (.op 12 (.op 13 (.op 14 (.op 15 (.op 16 (.alt (.op 7 (.op 9 (.op 10 (.op 17 (.op 18 (.op 19 (.op 20 (.nil)))))))) (.op 9 (.op 7 (.op 10 (.op 17 (.op 18 (.op 19 (.op 20 (.nil))))))))))))))))))))))) panicOk_body mixed (by kernel_rfl) ?_
    refine zhrun ?_ ?_
    refine x_load rfl rfl (hpmk rfl (fun _ hk => hk.cel hc0 (fun h => h))) rfl (okq_load rfl rfl (by assumption)) ?_
    refine zhrun ?_ ?_
    refine x_slice_h rfl rfl rfl (by assumption) (by omega) (by omega) rfl (okq_reg rfl rfl) ?_
    intro u1 hu1 hcut1
    have hU1 := hPK3.cut (a := 0) (b := rank l k) hu1 hcut1 (by omega) (by omega)
    rw [List.drop_zero] at hU1
    refine zhrun ?_ ?_
    refine x_loads rfl rfl rfl (hpmk rfl (fun _ hk => a0.keep hk (fun _ h => h))) rfl (okq_load rfl rfl (by assumption)) ?_
    refine zhrun ?_ ?_
    refine x_load rfl rfl (hpmk rfl (fun _ hk => hk.cel hc0 (fun h => h))) rfl (okq_load rfl rfl (by assumption)) ?_
    refine zhrun ?_ ?_
    refine x_slice_l rfl rfl rfl (by assumption) (by omega) (by omega) rfl (okq_reg rfl rfl) ?_
    intro u2 hu2 hcut2
    have hU2 := hPK3.cut (a := nd) (b := l.length) (by subst hnd; exact hu2) (by subst hnd; exact hcut2) (by omega) (by omega)
    rw [List.take_length] at hU2
    obtain ⟨q1, k1, c1⟩ := hU1.row
    obtain ⟨q2, k2, c2⟩ := hU2.row
    refine x_alt ?_ ?_
    · refine x_append (by rfl) (by rfl) (by rfl) rfl rfl rfl (Own.nil 2 H3) hU1.sl (by rw [pcs_length, k1.len]) c1 (pcs_oneC k1 (fun v b h => isSl_oneC h.1.sl)) (by omega) rfl ⟨rfl, rfl⟩ ?_
      intro v1 H4 hap1
      have hk4 := hap1.old (Fresh.nil H3) (Keep.refl _ _)
      have hf1 := hap1.fresh (Fresh.nil H3) (Nat.le_refl _)
      refine ⟨okm_keep hk4 (fun _ _ h => h), ?_⟩
      refine x_buildSliceS1 (by rfl) rfl rfl (by omega) (by rfl) rfl ⟨rfl, rfl⟩ ?_
      intro H5 hn5
      have hk5 := hn5.old hk4
      refine ⟨okm_keep hn5.keep (fun _ _ h => h), ?_⟩
      have hv1 : Own 2 H5 v1 (l.take (rank l k)).length (pcs q1) := by
        have := hap1.own.keep hn5.keep (fun _ h => h)
        rw [Nat.zero_add, List.nil_append] at this
        exact this
      have hb5 : Blk H5 H4.size [c, .int .u64 x] := hn5.blk
      refine x_append (by rfl) (by rfl) (by rfl) rfl rfl rfl hv1 (isSl_some (Nat.le_refl _) (by omega)) (m := 1) (cx := [c, .int .u64 x]) rfl (hb5.cels 0 2 (by simp)) (two_oneC' (isSl_oneC hown.sl)) (by omega) rfl ⟨rfl, rfl⟩ ?_
      intro v2 H6 hap2
      have hk6 := hap2.old hf1 hk5
      have hf2 := hap2.fresh hf1 (by have := hk5.size; omega)
      refine ⟨okm_keep hap2.keep (fun b hb e => by have := hf1 (by omega); have := e.1; omega), ?_⟩
      refine zhrun ?_ ?_
      refine x_append (by rfl) (by rfl) (by rfl) rfl rfl rfl hap2.own hU2.sl (by rw [pcs_length, k2.len]) (c2.keep hk6 (fun _ h => h)) (pcs_oneC k2 (fun v b h => isSl_oneC h.1.sl)) (by omega) rfl ⟨rfl, rfl⟩ ?_
      intro v3 H7 hap3
      have hk7 := hap3.old hf2 hk6
      have hf3 := hap3.fresh hf2 (by have := hk6.size; omega)
      refine ⟨okm_keep hap3.keep (fun b hb e => by have := hf2 (by omega); have := e.1; omega), ?_⟩
      refine zhrun ?_ ?_
      have hB7 := hB3.keep hk7 (fun h => h)
      refine x_store rfl rfl rfl (isSl_oneC hap3.own.sl) hB7 (by simp) ⟨rfl, rfl⟩ ?_
      intro H8 hB8 hk8 hs8
      refine ⟨okm_free (fun c => by cases c <;> kernel_rfl), ?_⟩
      refine zhrun ?_ ?_
      refine zrun ?_ ?_
      have hb8 : ∀ z, z ≠ b → ¬ (z = b) := fun _ h => h
      have hs03 := hk03.size
      have hs37 := hk7.size
      have hsz8 : H3.size ≤ H8.size := by omega
      have hWn : ∀ {z : Nat}, H.size ≤ z → z < H8.size → (W.new H H8) z ≠ 0 := fun h1 h2 => Role.new_at W H H8 h1 h2
      have hold8 : ∀ kk cc, (Bs H3 kk cc ∧ (cc ≠ [] → sb kk ≠ b) ∧ (cc ≠ [] → (W.new H H8) (sb kk) ≠ 0)) → KW (W.new H H8) H8 kk cc := fun kk cc hb => ⟨(hb.1.keepN hk7).keep hk8 (fun hne e => hb.2.1 hne e), hb.2.2⟩
      have hkk : Pk (KW (W.new H H8) H8) (q1 ++ [(c, x)] ++ q2) (l.take (rank l k) ++ [(k, x)] ++ l.drop nd) := ((k1.mono fun kk cc hb => hold8 kk cc ⟨hb.1, fun hne e => hKb hb hne e, fun hne => Role.new_old (hb.2 hne) hW⟩).append (Pk.one (p := (k, x)) ⟨((hown.keep hk7 (fun _ h => h)).bs).keep hk8 (fun hne e => hcB hne e), fun hne => hWn (hcA hne).1 (by have := (hcA hne).2; omega)⟩)).append (k2.mono fun kk cc hb => hold8 kk cc ⟨hb.1, fun hne e => hKb hb hne e, fun hne => Role.new_old (hb.2 hne) hW⟩)
      have hv3 : 0 < sc v3 → H3.size ≤ sb v3 := hf3
      refine cw_ret3 rfl rfl rfl rfl ⟨?_, (hk03.non_trans hk7).non_slot hk8, W.new H H8, Role.new_ext _ (by omega), Role.new_in hW (by omega), Role.new_old hwb hW, v3, hB8, ⟨?_, q1 ++ [(c, x)] ++ q2, ?_, ?_⟩, fun _ => ?_⟩
      · rw [hgn]; rfl
      · have : putM l k x = l.take (rank l k) ++ [(k, x)] ++ l.drop nd := by unfold putM; rw [hth, hnd]; simp
        rw [this, List.length_append, List.length_append]
        exact hap3.own.sl
      · have : putM l k x = l.take (rank l k) ++ [(k, x)] ++ l.drop nd := by unfold putM; rw [hth, hnd]; simp
        rw [this]
        exact hkk
      · rw [pcs_append, pcs_append]
        exact hap3.own.cels.keep hk8 (fun _ e => by have := hv3 (by have := hap3.own.sl.cap; have e1 : ([(k, x)] : List Pr).length = 1 := rfl; omega); have := hB.lt; omega)
      · exact hWn (by have := hv3 (by have := hap3.own.sl.cap; have e1 : ([(k, x)] : List Pr).length = 1 := rfl; omega); omega) (by have := hap3.own.lt (by have := hap3.own.sl.cap; have e1 : ([(k, x)] : List Pr).length = 1 := rfl; omega); omega)
    · refine x_buildSliceS1 (by rfl) rfl rfl (by omega) (by rfl) rfl ⟨rfl, rfl⟩ ?_
      intro H4 hn4
      have hk4 := hn4.keep
      refine ⟨okm_keep hk4 (fun _ _ h => h), ?_⟩
      refine x_append (by rfl) (by rfl) (by rfl) rfl rfl rfl (Own.nil 2 H4) hU1.sl (by rw [pcs_length, k1.len]) (c1.keep hk4 (fun _ h => h)) (pcs_oneC k1 (fun v b h => isSl_oneC h.1.sl)) (by omega) rfl ⟨rfl, rfl⟩ ?_
      intro v1 H5 hap1
      have hk5 := hk4.non_trans (hap1.old (Fresh.nil H4) (Keep.refl _ _))
      have hf1 : Fresh H3 v1 := fun hc => by have := hap1.fresh (Fresh.nil H4) (Nat.le_refl _) hc; have := hk4.size; omega
      refine ⟨okm_keep (hap1.old (Fresh.nil H4) (Keep.refl _ _)) (fun _ _ h => h), ?_⟩
      have hv1 : Own 2 H5 v1 (l.take (rank l k)).length (pcs q1) := by
        have := hap1.own
        rw [Nat.zero_add, List.nil_append] at this
        exact this
      have hb5 : Blk H5 H3.size [c, .int .u64 x] := hn4.blk.keep (hap1.old (Fresh.nil H4) (Keep.refl _ _)) (fun h => h)
      refine x_append (by rfl) (by rfl) (by rfl) rfl rfl rfl hv1 (isSl_some (Nat.le_refl _) (by omega)) (m := 1) (cx := [c, .int .u64 x]) rfl (hb5.cels 0 2 (by simp)) (two_oneC' (isSl_oneC hown.sl)) (by omega) rfl ⟨rfl, rfl⟩ ?_
      intro v2 H6 hap2
      have hk6 := hap2.old hf1 hk5
      have hf2 := hap2.fresh hf1 (by have := hk5.size; omega)
      refine ⟨okm_keep hap2.keep (fun b hb e => by have := hf1 (by omega); have := e.1; omega), ?_⟩
      refine zhrun ?_ ?_
      refine x_append (by rfl) (by rfl) (by rfl) rfl rfl rfl hap2.own hU2.sl (by rw [pcs_length, k2.len]) (c2.keep hk6 (fun _ h => h)) (pcs_oneC k2 (fun v b h => isSl_oneC h.1.sl)) (by omega) rfl ⟨rfl, rfl⟩ ?_
      intro v3 H7 hap3
      have hk7 := hap3.old hf2 hk6
      have hf3 := hap3.fresh hf2 (by have := hk6.size; omega)
      refine ⟨okm_keep hap3.keep (fun b hb e => by have := hf2 (by omega); have := e.1; omega), ?_⟩
      refine zhrun ?_ ?_
      have hB7 := hB3.keep hk7 (fun h => h)
      refine x_store rfl rfl rfl (isSl_oneC hap3.own.sl) hB7 (by simp) ⟨rfl, rfl⟩ ?_
      intro H8 hB8 hk8 hs8
      refine ⟨okm_free (fun c => by cases c <;> kernel_rfl), ?_⟩
      refine zhrun ?_ ?_
      refine zrun ?_ ?_
      have hb8 : ∀ z, z ≠ b → ¬ (z = b) := fun _ h => h
      have hs03 := hk03.size
      have hs37 := hk7.size
      have hsz8 : H3.size ≤ H8.size := by omega
      have hWn : ∀ {z : Nat}, H.size ≤ z → z < H8.size → (W.new H H8) z ≠ 0 := fun h1 h2 => Role.new_at W H H8 h1 h2
      have hold8 : ∀ kk cc, (Bs H3 kk cc ∧ (cc ≠ [] → sb kk ≠ b) ∧ (cc ≠ [] → (W.new H H8) (sb kk) ≠ 0)) → KW (W.new H H8) H8 kk cc := fun kk cc hb => ⟨(hb.1.keepN hk7).keep hk8 (fun hne e => hb.2.1 hne e), hb.2.2⟩
      have hkk : Pk (KW (W.new H H8) H8) (q1 ++ [(c, x)] ++ q2) (l.take (rank l k) ++ [(k, x)] ++ l.drop nd) := ((k1.mono fun kk cc hb => hold8 kk cc ⟨hb.1, fun hne e => hKb hb hne e, fun hne => Role.new_old (hb.2 hne) hW⟩).append (Pk.one (p := (k, x)) ⟨((hown.keep hk7 (fun _ h => h)).bs).keep hk8 (fun hne e => hcB hne e), fun hne => hWn (hcA hne).1 (by have := (hcA hne).2; omega)⟩)).append (k2.mono fun kk cc hb => hold8 kk cc ⟨hb.1, fun hne e => hKb hb hne e, fun hne => Role.new_old (hb.2 hne) hW⟩)
      have hv3 : 0 < sc v3 → H3.size ≤ sb v3 := hf3
      refine cw_ret3 rfl rfl rfl rfl ⟨?_, (hk03.non_trans hk7).non_slot hk8, W.new H H8, Role.new_ext _ (by omega), Role.new_in hW (by omega), Role.new_old hwb hW, v3, hB8, ⟨?_, q1 ++ [(c, x)] ++ q2, ?_, ?_⟩, fun _ => ?_⟩
      · rw [hgn]; rfl
      · have : putM l k x = l.take (rank l k) ++ [(k, x)] ++ l.drop nd := by unfold putM; rw [hth, hnd]; simp
        rw [this, List.length_append, List.length_append]
        exact hap3.own.sl
      · have : putM l k x = l.take (rank l k) ++ [(k, x)] ++ l.drop nd := by unfold putM; rw [hth, hnd]; simp
        rw [this]
        exact hkk
      · rw [pcs_append, pcs_append]
        exact hap3.own.cels.keep hk8 (fun _ e => by have := hv3 (by have := hap3.own.sl.cap; have e1 : ([(k, x)] : List Pr).length = 1 := rfl; omega); have := hB.lt; omega)
      · exact hWn (by have := hv3 (by have := hap3.own.sl.cap; have e1 : ([(k, x)] : List Pr).length = 1 := rfl; omega); omega) (by have := hap3.own.lt (by have := hap3.own.sl.cap; have e1 : ([(k, x)] : List Pr).length = 1 := rfl; omega); omega)
  · obtain ⟨p, hp, hpk⟩ : ∃ p, l[rank l k]? = some p ∧ p.1 = k := by
      unfold there at hth
      cases h : l[rank l k]? with
      | none => rw [h] at hth; cases hth
      | some p => rw [h] at hth; exact ⟨p, rfl, by simpa using hth⟩
    have hgn : getM l k = some p.2 := by
      unfold getM
      rw [hp]
      simp [hpk]
    have hlt := (List.getElem?_eq_some_iff.1 hp).1
    obtain ⟨kk, a1, a2, a3⟩ := hP3.at_ _ p hp
    obtain ⟨nd, hnd⟩ : ∃ nd, nd = rank l k + 1 := ⟨_, rfl⟩
    have hdl : (l.drop nd).length = l.length - nd := by simp
    have e1 : ((rank l k : Int) + 1).toNat = nd := by omega
    refine zrun ?_ ?_
    refine x_load rfl rfl (hpmt (hc0)) rfl trivial ?_
    refine zrun ?_ ?_
    refine x_load rfl rfl (hpmt (a2)) rfl trivial ?_
    refine zrun ?_ ?_
    refine cw_held (fun _ => Keep Non H3) ⟨[7, 9, 10, 18, 21], [(4, 0), (8, 0), (14, 0)]⟩ (.op 0 (.op 1 (.op 2 (.op 3 (.op 4 (.op 5 (.op 6 (.op 8 (.op 11 (.op 12 (.op 13 (.op 14 (.op 15 (.op 16 (.op 17 (.alt (.op 7 (.op 9 (.op 10 (.op 18 (.op 19 (.op 20 (.op 21 (.nil)))))))) (.op 9 (.op 7 (.op 10 (.op 18 (.op 19 (.op 20 (.op 21 (.nil)))))))))))))))))))))))) panicOk_body mixed (by kernel_rfl) ?_
    refine zhrun ?_ ?_
    refine x_load rfl rfl (hpmk rfl (fun _ hk => hk.cel hc0 (fun h => h))) rfl (okq_load rfl rfl (by assumption)) ?_
    refine zhrun ?_ ?_
    refine x_slice_h rfl rfl rfl (by assumption) (by omega) (by omega) rfl (okq_reg rfl rfl) ?_
    intro u1 hu1 hcut1
    have hU1 := hPK3.cut (a := 0) (b := rank l k) hu1 hcut1 (by omega) (by omega)
    rw [List.drop_zero] at hU1
    refine zhrun ?_ ?_
    refine x_loads rfl rfl rfl (hpmk rfl (fun _ hk => a0.keep hk (fun _ h => h))) rfl (okq_load rfl rfl (by assumption)) ?_
    refine zhrun ?_ ?_
    refine x_load rfl rfl (hpmk rfl (fun _ hk => hk.cel hc0 (fun h => h))) rfl (okq_load rfl rfl (by assumption)) ?_
    refine zhrun ?_ ?_
    refine x_slice_l rfl rfl rfl (by assumption) (by omega) (by omega) rfl (okq_reg rfl rfl) ?_
    intro u2 hu2 hcut2
    have hU2 := hPK3.cut (a := nd) (b := l.length) (by rw [e1] at hu2; exact hu2) (by rw [e1] at hcut2; exact hcut2) (by omega) (by omega)
    rw [List.take_length] at hU2
    obtain ⟨q1, k1, c1⟩ := hU1.row
    obtain ⟨q2, k2, c2⟩ := hU2.row
    refine x_alt ?_ ?_
    · refine x_append (by rfl) (by rfl) (by rfl) rfl rfl rfl (Own.nil 2 H3) hU1.sl (by rw [pcs_length, k1.len]) c1 (pcs_oneC k1 (fun v b h => isSl_oneC h.1.sl)) (by omega) rfl ⟨rfl, rfl⟩ ?_
      intro v1 H4 hap1
      have hk4 := hap1.old (Fresh.nil H3) (Keep.refl _ _)
      have hf1 := hap1.fresh (Fresh.nil H3) (Nat.le_refl _)
      refine ⟨okm_keep hk4 (fun _ _ h => h), ?_⟩
      refine x_buildSliceS1 (by rfl) rfl rfl (by omega) (by rfl) rfl ⟨rfl, rfl⟩ ?_
      intro H5 hn5
      have hk5 := hn5.old hk4
      refine ⟨okm_keep hn5.keep (fun _ _ h => h), ?_⟩
      have hv1 : Own 2 H5 v1 (l.take (rank l k)).length (pcs q1) := by
        have := hap1.own.keep hn5.keep (fun _ h => h)
        rw [Nat.zero_add, List.nil_append] at this
        exact this
      have hb5 : Blk H5 H4.size [c, .int .u64 x] := hn5.blk
      refine x_append (by rfl) (by rfl) (by rfl) rfl rfl rfl hv1 (isSl_some (Nat.le_refl _) (by omega)) (m := 1) (cx := [c, .int .u64 x]) rfl (hb5.cels 0 2 (by simp)) (two_oneC' (isSl_oneC hown.sl)) (by omega) rfl ⟨rfl, rfl⟩ ?_
      intro v2 H6 hap2
      have hk6 := hap2.old hf1 hk5
      have hf2 := hap2.fresh hf1 (by have := hk5.size; omega)
      refine ⟨okm_keep hap2.keep (fun b hb e => by have := hf1 (by omega); have := e.1; omega), ?_⟩
      refine zhrun ?_ ?_
      refine x_append (by rfl) (by rfl) (by rfl) rfl rfl rfl hap2.own hU2.sl (by rw [pcs_length, k2.len]) (c2.keep hk6 (fun _ h => h)) (pcs_oneC k2 (fun v b h => isSl_oneC h.1.sl)) (by omega) rfl ⟨rfl, rfl⟩ ?_
      intro v3 H7 hap3
      have hk7 := hap3.old hf2 hk6
      have hf3 := hap3.fresh hf2 (by have := hk6.size; omega)
      refine ⟨okm_keep hap3.keep (fun b hb e => by have := hf2 (by omega); have := e.1; omega), ?_⟩
      refine zhrun ?_ ?_
      have hB7 := hB3.keep hk7 (fun h => h)
      refine x_store rfl rfl rfl (isSl_oneC hap3.own.sl) hB7 (by simp) ⟨rfl, rfl⟩ ?_
      intro H8 hB8 hk8 hs8
      refine ⟨okm_free (fun c => by cases c <;> kernel_rfl), ?_⟩
      refine zhrun ?_ ?_
      refine zrun ?_ ?_
      have hb8 : ∀ z, z ≠ b → ¬ (z = b) := fun _ h => h
      have hs03 := hk03.size
      have hs37 := hk7.size
      have hsz8 : H3.size ≤ H8.size := by omega
      have hWn : ∀ {z : Nat}, H.size ≤ z → z < H8.size → (W.new H H8) z ≠ 0 := fun h1 h2 => Role.new_at W H H8 h1 h2
      have hold8 : ∀ kk cc, (Bs H3 kk cc ∧ (cc ≠ [] → sb kk ≠ b) ∧ (cc ≠ [] → (W.new H H8) (sb kk) ≠ 0)) → KW (W.new H H8) H8 kk cc := fun kk cc hb => ⟨(hb.1.keepN hk7).keep hk8 (fun hne e => hb.2.1 hne e), hb.2.2⟩
      have hkk : Pk (KW (W.new H H8) H8) (q1 ++ [(c, x)] ++ q2) (l.take (rank l k) ++ [(k, x)] ++ l.drop nd) := ((k1.mono fun kk cc hb => hold8 kk cc ⟨hb.1, fun hne e => hKb hb hne e, fun hne => Role.new_old (hb.2 hne) hW⟩).append (Pk.one (p := (k, x)) ⟨((hown.keep hk7 (fun _ h => h)).bs).keep hk8 (fun hne e => hcB hne e), fun hne => hWn (hcA hne).1 (by have := (hcA hne).2; omega)⟩)).append (k2.mono fun kk cc hb => hold8 kk cc ⟨hb.1, fun hne e => hKb hb hne e, fun hne => Role.new_old (hb.2 hne) hW⟩)
      have hv3 : 0 < sc v3 → H3.size ≤ sb v3 := hf3
      refine cw_ret3 rfl rfl rfl rfl ⟨?_, (hk03.non_trans hk7).non_slot hk8, W.new H H8, Role.new_ext _ (by omega), Role.new_in hW (by omega), Role.new_old hwb hW, v3, hB8, ⟨?_, q1 ++ [(c, x)] ++ q2, ?_, ?_⟩, fun _ => ?_⟩
      · rw [hgn]; rfl
      · have : putM l k x = l.take (rank l k) ++ [(k, x)] ++ l.drop nd := by unfold putM; rw [hth, hnd]; simp
        rw [this, List.length_append, List.length_append]
        exact hap3.own.sl
      · have : putM l k x = l.take (rank l k) ++ [(k, x)] ++ l.drop nd := by unfold putM; rw [hth, hnd]; simp
        rw [this]
        exact hkk
      · rw [pcs_append, pcs_append]
        exact hap3.own.cels.keep hk8 (fun _ e => by have := hv3 (by have := hap3.own.sl.cap; have e1 : ([(k, x)] : List Pr).length = 1 := rfl; omega); have := hB.lt; omega)
      · exact hWn (by have := hv3 (by have := hap3.own.sl.cap; have e1 : ([(k, x)] : List Pr).length = 1 := rfl; omega); omega) (by have := hap3.own.lt (by have := hap3.own.sl.cap; have e1 : ([(k, x)] : List Pr).length = 1 := rfl; omega); omega)
    · refine x_buildSliceS1 (by rfl) rfl rfl (by omega) (by rfl) rfl ⟨rfl, rfl⟩ ?_
      intro H4 hn4
      have hk4 := hn4.keep
      refine ⟨okm_keep hk4 (fun _ _ h => h), ?_⟩
      refine x_append (by rfl) (by rfl) (by rfl) rfl rfl rfl (Own.nil 2 H4) hU1.sl (by rw [pcs_length, k1.len]) (c1.keep hk4 (fun _ h => h)) (pcs_oneC k1 (fun v b h => isSl_oneC h.1.sl)) (by omega) rfl ⟨rfl, rfl⟩ ?_
      intro v1 H5 hap1
      have hk5 := hk4.non_trans (hap1.old (Fresh.nil H4) (Keep.refl _ _))
      have hf1 : Fresh H3 v1 := fun hc => by have := hap1.fresh (Fresh.nil H4) (Nat.le_refl _) hc; have := hk4.size; omega
      refine ⟨okm_keep (hap1.old (Fresh.nil H4) (Keep.refl _ _)) (fun _ _ h => h), ?_⟩
      have hv1 : Own 2 H5 v1 (l.take (rank l k)).length (pcs q1) := by
        have := hap1.own
        rw [Nat.zero_add, List.nil_append] at this
        exact this
      have hb5 : Blk H5 H3.size [c, .int .u64 x] := hn4.blk.keep (hap1.old (Fresh.nil H4) (Keep.refl _ _)) (fun h => h)
      refine x_append (by rfl) (by rfl) (by rfl) rfl rfl rfl hv1 (isSl_some (Nat.le_refl _) (by omega)) (m := 1) (cx := [c, .int .u64 x]) rfl (hb5.cels 0 2 (by simp)) (two_oneC' (isSl_oneC hown.sl)) (by omega) rfl ⟨rfl, rfl⟩ ?_
      intro v2 H6 hap2
      have hk6 := hap2.old hf1 hk5
      have hf2 := hap2.fresh hf1 (by have := hk5.size; omega)
      refine ⟨okm_keep hap2.keep (fun b hb e => by have := hf1 (by omega); have := e.1; omega), ?_⟩
      refine zhrun ?_ ?_
      refine x_append (by rfl) (by rfl) (by rfl) rfl rfl rfl hap2.own hU2.sl (by rw [pcs_length, k2.len]) (c2.keep hk6 (fun _ h => h)) (pcs_oneC k2 (fun v b h => isSl_oneC h.1.sl)) (by omega) rfl ⟨rfl, rfl⟩ ?_
      intro v3 H7 hap3
      have hk7 := hap3.old hf2 hk6
      have hf3 := hap3.fresh hf2 (by have := hk6.size; omega)
      refine ⟨okm_keep hap3.keep (fun b hb e => by have := hf2 (by omega); have := e.1; omega), ?_⟩
      refine zhrun ?_ ?_
      have hB7 := hB3.keep hk7 (fun h => h)
      refine x_store rfl rfl rfl (isSl_oneC hap3.own.sl) hB7 (by simp) ⟨rfl, rfl⟩ ?_
      intro H8 hB8 hk8 hs8
      refine ⟨okm_free (fun c => by cases c <;> kernel_rfl), ?_⟩
      refine zhrun ?_ ?_
      refine zrun ?_ ?_
      have hb8 : ∀ z, z ≠ b → ¬ (z = b) := fun _ h => h
      have hs03 := hk03.size
      have hs37 := hk7.size
      have hsz8 : H3.size ≤ H8.size := by omega
      have hWn : ∀ {z : Nat}, H.size ≤ z → z < H8.size → (W.new H H8) z ≠ 0 := fun h1 h2 => Role.new_at W H H8 h1 h2
      have hold8 : ∀ kk cc, (Bs H3 kk cc ∧ (cc ≠ [] → sb kk ≠ b) ∧ (cc ≠ [] → (W.new H H8) (sb kk) ≠ 0)) → KW (W.new H H8) H8 kk cc := fun kk cc hb => ⟨(hb.1.keepN hk7).keep hk8 (fun hne e => hb.2.1 hne e), hb.2.2⟩
      have hkk : Pk (KW (W.new H H8) H8) (q1 ++ [(c, x)] ++ q2) (l.take (rank l k) ++ [(k, x)] ++ l.drop nd) := ((k1.mono fun kk cc hb => hold8 kk cc ⟨hb.1, fun hne e => hKb hb hne e, fun hne => Role.new_old (hb.2 hne) hW⟩).append (Pk.one (p := (k, x)) ⟨((hown.keep hk7 (fun _ h => h)).bs).keep hk8 (fun hne e => hcB hne e), fun hne => hWn (hcA hne).1 (by have := (hcA hne).2; omega)⟩)).append (k2.mono fun kk cc hb => hold8 kk cc ⟨hb.1, fun hne e => hKb hb hne e, fun hne => Role.new_old (hb.2 hne) hW⟩)
      have hv3 : 0 < sc v3 → H3.size ≤ sb v3 := hf3
      refine cw_ret3 rfl rfl rfl rfl ⟨?_, (hk03.non_trans hk7).non_slot hk8, W.new H H8, Role.new_ext _ (by omega), Role.new_in hW (by omega), Role.new_old hwb hW, v3, hB8, ⟨?_, q1 ++ [(c, x)] ++ q2, ?_, ?_⟩, fun _ => ?_⟩
      · rw [hgn]; rfl
      · have : putM l k x = l.take (rank l k) ++ [(k, x)] ++ l.drop nd := by unfold putM; rw [hth, hnd]; simp
        rw [this, List.length_append, List.length_append]
        exact hap3.own.sl
      · have : putM l k x = l.take (rank l k) ++ [(k, x)] ++ l.drop nd := by unfold putM; rw [hth, hnd]; simp
        rw [this]
        exact hkk
      · rw [pcs_append, pcs_append]
        exact hap3.own.cels.keep hk8 (fun _ e => by have := hv3 (by have := hap3.own.sl.cap; have e1 : ([(k, x)] : List Pr).length = 1 := rfl; omega); have := hB.lt; omega)
      · exact hWn (by have := hv3 (by have := hap3.own.sl.cap; have e1 : ([(k, x)] : List Pr).length = 1 := rfl; omega); omega) (by have := hap3.own.lt (by have := hap3.own.sl.cap; have e1 : ([(k, x)] : List Pr).length = 1 := rfl; omega); omega)

theorem ref_NewW {va : Value} {l : List Pr} {H : Heap} (hA : Ps H va l) (hl : l.length ≤ 100000) (hk : ∀ p ∈ l, p.1.length ≤ 65535) : Ret Tryd.prog 13 [va] H (fun v H' => Keep Non H H' ∧ ∃ b W, v = ptr b 0 ∧ Role.From W H.size ∧ Mw W H' b (newM l)) := by
  have sA := hA.sl
  have cA := sA.cap
  refine ret_of Tryd.func13 rfl rfl rfl rfl ?_
  intro w0
  refine zrun ?_ ?_
  refine x_build (cs := [.slice none 0 0]) rfl rfl rfl (by simp) rfl trivial ?_
  refine x_box rfl rfl rfl trivial ?_
  intro H1 hn1
  refine ⟨trivial, ?_⟩
  refine zrun ?_ ?_
  have hs1 := hn1.size
  refine cw_loop (fun s : Nat × Role => [(0, va), (3, ptr H.size 0), (4, .int .i64 s.1)]) (fun s H' => s.1 ≤ l.length ∧ Keep Non H H' ∧ s.2.From H.size ∧ Mw s.2 H' H.size (newM (l.take s.1))) (fun s => l.length - s.1) (0, Role.new (fun _ => 0) H H1) (by repeat (first | exact True.intro | refine ⟨rfl, ?_⟩)) ⟨Nat.zero_le _, hn1.keep, fun x hx => Role.new_from hx, ⟨Role.new_in (fun _ h => absurd rfl h) (by omega), Role.new_at (fun _ => 0) H H1 (z := H.size) (Nat.le_refl _) (by omega), _, hn1.blk, PsK.nil _ _, fun h => absurd rfl h⟩⟩ ?_
  rintro ⟨j, W⟩ H2 ⟨hj, hk2, hF, hM⟩
  dsimp only at hj hF hM ⊢
  refine zrun ?_ ?_
  refine cw_cond rfl (fun h1 => ?_) (fun h1 => ?_) <;> (try simp at h1)
  · obtain ⟨p, hp⟩ := getp (l := l) h1
    obtain ⟨k, b1, b2, b3⟩ := hA.at_ j p hp
    have a1 := hk2.cel b1 (fun h => h)
    have a2 := hk2.cel b2 (fun h => h)
    have a3 := b3.keepN hk2
    have hlt := lt_of_cel b1
    have hpl := hk p (List.mem_of_getElem? hp)
    have hnl := newM_length (l.take j)
    have hjl : (l.take j).length = j := by simp; omega
    have hkr := Keep.refl (fun b => H.size ≤ b) H2
    refine zrun ?_ ?_
    refine cw_held (fun _ => Keep (fun b => H.size ≤ b) H2) ⟨[11], [(5, 0), (10, 0)]⟩ (.op 0 (.op 1 (.op 2 (.op 3 (.op 4 (.op 5 (.op 6 (.op 7 (.op 8 (.op 9 (.op 10 (.op 11 (.nil))))))))))))) panicOk_body mixed (by kernel_rfl) ?_
    refine zhrun ?_ ?_
    refine x_load rfl rfl (hpmk rfl (fun _ hk => hk.cel a1 (by omega))) rfl (okq_load rfl rfl (by assumption)) ?_
    refine zhrun ?_ ?_
    refine x_load rfl rfl (hpmk rfl (fun _ hk => hk.cel a2 (by omega))) rfl (okq_load rfl rfl (by assumption)) ?_
    refine x_call rfl rfl rfl ⟨rfl, rfl⟩ (ref_PutW p.2 hM a3 hpl (by omega)) ?_
    rintro _ H3 ⟨rfl, hk3, W', hE, hM3⟩
    refine ⟨okm_keep hk3 (fun b hb e => by subst e; exact Nat.le_refl _), ?_⟩
    refine zhrun ?_ ?_
    refine zrun ?_ ?_
    refine nw_round (j + 1, W') (by repeat (first | exact True.intro | refine ⟨rfl, ?_⟩)) ⟨by show j + 1 ≤ _; omega, keep_at hk2 hk3 (Nat.le_refl _), hF.ext hE hk2.size, ?_⟩ (by show l.length - (j + 1) < l.length - j; omega)
    show Mw W' H3 H.size (newM (l.take (j + 1)))
    rw [newM_take hp]
    exact hM3
  · have hje : j = l.length := by omega
    subst hje
    rw [List.take_length] at hM
    refine zrun ?_ ?_
    exact cw_ret1 rfl rfl ⟨hk2, _, W, rfl, hF, hM⟩

/-- a map without a key -/
def dropM (l : List Pr) (k : Bytes) : List Pr := if there l k = true then l.take (rank l k) ++ l.drop (rank l k + 1) else l
theorem getM_there {l : List Pr} {k : Bytes} : (there l k = false → getM l k = none) ∧ (there l k = true → ∃ p, l[rank l k]? = some p ∧ p.1 = k ∧ getM l k = some p.2) := by
  unfold there getM
  cases h : l[rank l k]? with
  | none => simp
  | some p =>
    simp only [beq_iff_eq, beq_eq_false_iff_ne]
    exact ⟨fun e => if_neg e, fun e => ⟨p, rfl, e, if_pos e⟩⟩
end Go.Proofs.YtkdmcbacofafpaaDoor.X
