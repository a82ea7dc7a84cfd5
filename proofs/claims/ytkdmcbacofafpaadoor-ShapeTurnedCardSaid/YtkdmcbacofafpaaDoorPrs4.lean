/- The plain map of chapter 7: Put, New. -/
import Derived.Test.YtkdmcbacofafpaaDoorPrs3
namespace Go.Proofs.YtkdmcbacofafpaaDoor.X
open Go Go.Proofs
set_option linter.unusedVariables false
set_option maxRecDepth 10000
set_option maxHeartbeats 2000000

theorem _root_.Go.Proofs.YtkdmcbacofafpaaDoor.X.Keep.non_slot {H H' H'' : Heap} {b : Nat} (h : Keep Non H H') (h' : Keep (· = b) H' H'') : Keep (· = b) H H'' := (h.mono fun _ _ h => h.elim).step h' (fun _ _ e => e)

theorem ref7_Put {b : Nat} {vk : Value} {l : List Pr} {k : Bytes} {H : Heap} (x : Int) (hM : Mp H b l) (hK : Bs H vk k) (hk : k.length ≤ 65535) (hl : l.length ≤ 100000) : Ret Tryd.prog 23 [ptr b 0, vk, .int .u64 x] H (fun v H' => v = .tuple #[.int .u64 ((getM l k).getD 0), .bool (there l k), .int .i64 0] ∧ Keep (· = b) H H' ∧ Mp H' b (putM l k x)) := by
  obtain ⟨u, hB, hP⟩ := hM.row
  have sU := hP.sl
  have cU := sU.cap
  have hle := rank_le l k
  refine ret_of Tryd.func23 rfl rfl rfl rfl ?_
  intro w0
  refine zrun ?_ ?_
  refine x_call rfl rfl rfl trivial (ref_May hK.sl) ?_
  rintro _ _ ⟨rfl, rfl⟩
  refine ⟨trivial, ?_⟩
  rw [decide_eq_true hk]
  refine zrun ?_ ?_
  refine x_append (by rfl) (by rfl) (by rfl) rfl rfl rfl (Own.nil 1 H) (hK).sl (by rw [bvs_length, Nat.mul_one]) (hK).at_ (bvs_oneC _) (by omega) rfl trivial ?_
  intro v1 H1 hap1
  refine ⟨trivial, ?_⟩
  have hk1 := hap1.old (Fresh.nil H) (Keep.refl _ _)
  refine zrun ?_ ?_
  refine x_build (cs := [v1, .int .u64 x]) rfl rfl rfl (two_oneC (isSl_oneC hap1.own.sl)) rfl trivial ?_
  refine x_alloc rfl rfl trivial ?_
  intro H2 hn2
  refine ⟨trivial, ?_⟩
  refine x_stores rfl rfl rfl rfl (two_oneC' (isSl_oneC hap1.own.sl)) hn2.blk (by simp) trivial ?_
  intro H3 hB3a hk3 hs3
  refine ⟨trivial, ?_⟩
  have hk2 := hn2.old hk1
  have hk03 : Keep Non H H3 := keep_at hk2 hk3 hk1.size
  have hK3 := hK.keepN hk03
  have hB3 := hB.keep hk03 (fun h => h)
  have hP3 := hP.keepN hk03
  have hM3 : Mp H3 b l := ⟨u, hB3, hP3⟩
  have hown : Own 1 H3 v1 k.length (bvs k) := by
    have h := (hap1.own.keep hn2.keep (fun _ h => h)).keep hk3 (fun hc e => by
      have := hap1.own.lt hc
      omega)
    simpa using h
  have a0 : Cels H3 H1.size 0 [v1, .int .u64 x] := by
    have := hB3a.cels 0 2 (by simp [putL])
    simpa [putL] using this
  have hc0 : cel H3 b 0 = some u := by rw [hB3.cel]; rfl
  clear hk3 hap1
  generalize H1.size = A at *
  generalize hcv : v1 = c at *
  have hkr := Keep.refl Non H3
  have htl : (l.take (rank l k)).length = rank l k := by simp; omega
  refine zrun ?_ ?_
  refine x_call rfl rfl rfl trivial (ref_Find hM3 hK3) ?_
  rintro _ _ ⟨rfl, rfl⟩
  refine ⟨trivial, ?_⟩
  refine zrun ?_ ?_
  rcases hth : there l k with _ | _
  · have hgn : getM l k = none := by
      unfold there at hth
      unfold getM
      cases h : l[rank l k]? with
      | none => rfl
      | some p =>
        rw [h] at hth
        have : ¬ p.1 = k := by simpa using hth
        simp [this]
    obtain ⟨nd, hnd⟩ : ∃ nd, nd = rank l k := ⟨_, rfl⟩
    have hdl : (l.drop nd).length = l.length - nd := by simp
    refine zrun ?_ ?_
    refine cw_held (fun _ => Keep Non H3) ⟨[7, 9, 10, 17, 20], [(4, 0), (8, 0), (14, 0)]⟩ (.op 0 (.op 1 (.op 2 (.op 3 (.op 4 (.op 5 (.op 6 (.op 8 (.op 11 (.op 12 (.op 13 (.op 14 (.op 15 (.op 16 (.alt (.op 7 (.op 9 (.op 10 (.op 17 (.op 18 (.op 19 (.op 20 (.nil)))))))) (.op 9 (.op 7 (.op 10 (.op 17 (.op 18 (.op 19 (.op 20 (.nil))))))))))))))))))))))) panicOk_body mixed (by kernel_rfl) ?_
    refine zhrun ?_ ?_
    refine x_load rfl rfl (hpmk rfl (fun _ hk => hk.cel hc0 (fun h => h))) rfl (okq_load rfl rfl (by assumption)) ?_
    refine zhrun ?_ ?_
    refine x_slice_h rfl rfl rfl (by assumption) (by omega) (by omega) rfl (okq_reg rfl rfl) ?_
    intro u1 hu1 hcut1
    have hU1 := hP3.cut (a := 0) (b := rank l k) hu1 hcut1 (by omega) (by omega)
    rw [List.drop_zero] at hU1
    refine zhrun ?_ ?_
    refine x_loads rfl rfl rfl (hpmk rfl (fun _ hk => a0.keep hk (fun _ h => h))) rfl (okq_load rfl rfl (by assumption)) ?_
    refine zhrun ?_ ?_
    refine x_load rfl rfl (hpmk rfl (fun _ hk => hk.cel hc0 (fun h => h))) rfl (okq_load rfl rfl (by assumption)) ?_
    refine zhrun ?_ ?_
    refine x_slice_l rfl rfl rfl (by assumption) (by omega) (by omega) rfl (okq_reg rfl rfl) ?_
    intro u2 hu2 hcut2
    have hU2 := hP3.cut (a := nd) (b := l.length) (by subst hnd; exact hu2) (by subst hnd; exact hcut2) (by omega) (by omega)
    rw [List.take_length] at hU2
    obtain ⟨q1, k1, c1⟩ := hU1.row
    obtain ⟨q2, k2, c2⟩ := hU2.row
    refine x_alt ?_ ?_
    · refine x_append (by rfl) (by rfl) (by rfl) rfl rfl rfl (Own.nil 2 H3) hU1.sl (by rw [pcs_length, k1.len]) c1 (pcs_oneC k1 (fun v b h => isSl_oneC h.sl)) (by omega) rfl ⟨rfl, rfl⟩ ?_
      intro v1 H4 hap1
      have hk4 := hap1.old (Fresh.nil H3) (Keep.refl _ _)
      have hf1 := hap1.fresh (Fresh.nil H3) (Nat.le_refl _)
      refine ⟨okm_keep hk4 (fun _ _ h => h), ?_⟩
      refine x_buildSliceS1 (by rfl) rfl rfl (by omega) (by rfl) rfl ⟨rfl, rfl⟩ ?_
      intro H5 hn5
      have hk5 := hn5.old hk4
      refine ⟨okm_keep hn5.keep (fun _ _ h => h), ?_⟩
      have hv1 : Own 2 H5 v1 (l.take (rank l k)).length (pcs q1) := by
        have := hap1.own.keep hn5.keep (fun _ h => h)
        rw [Nat.zero_add, List.nil_append] at this
        exact this
      have hb5 : Blk H5 H4.size [c, .int .u64 x] := hn5.blk
      refine x_append (by rfl) (by rfl) (by rfl) rfl rfl rfl hv1 (isSl_some (Nat.le_refl _) (by omega)) (m := 1) (cx := [c, .int .u64 x]) rfl (hb5.cels 0 2 (by simp)) (two_oneC' (isSl_oneC hown.sl)) (by omega) rfl ⟨rfl, rfl⟩ ?_
      intro v2 H6 hap2
      have hk6 := hap2.old hf1 hk5
      have hf2 := hap2.fresh hf1 (by have := hk5.size; omega)
      refine ⟨okm_keep hap2.keep (fun b hb e => by have := hf1 (by omega); have := e.1; omega), ?_⟩
      refine zhrun ?_ ?_
      refine x_append (by rfl) (by rfl) (by rfl) rfl rfl rfl hap2.own hU2.sl (by rw [pcs_length, k2.len]) (c2.keep hk6 (fun _ h => h)) (pcs_oneC k2 (fun v b h => isSl_oneC h.sl)) (by omega) rfl ⟨rfl, rfl⟩ ?_
      intro v3 H7 hap3
      have hk7 := hap3.old hf2 hk6
      have hf3 := hap3.fresh hf2 (by have := hk6.size; omega)
      refine ⟨okm_keep hap3.keep (fun b hb e => by have := hf2 (by omega); have := e.1; omega), ?_⟩
      refine zhrun ?_ ?_
      have hB7 := hB3.keep hk7 (fun h => h)
      refine x_store rfl rfl rfl (isSl_oneC hap3.own.sl) hB7 (by simp) ⟨rfl, rfl⟩ ?_
      intro H8 hB8 hk8 hs8
      refine ⟨okm_free (fun c => by cases c <;> kernel_rfl), ?_⟩
      have hP7 : Ps H7 v3 (l.take (rank l k) ++ [(k, x)] ++ l.drop nd) := by
        have hkk : Pk (Bs H7) (q1 ++ [(c, x)] ++ q2) (l.take (rank l k) ++ [(k, x)] ++ l.drop nd) := ((k1.mono fun _ _ h => h.keepN hk7).append (Pk.one (p := (k, x)) (hown.keep hk7 (fun _ h => h)).bs)).append (k2.mono fun _ _ h => h.keepN hk7)
        refine ⟨by rw [List.length_append, List.length_append]; exact hap3.own.sl, q1 ++ [(c, x)] ++ q2, hkk, ?_⟩
        rw [pcs_append, pcs_append]
        exact hap3.own.cels
      have hP8 := hP7.keep_slot hB7 sU hk8
      refine zhrun ?_ ?_
      refine zrun ?_ ?_
      refine cw_ret3 rfl rfl rfl rfl ⟨?_, (hk03.non_trans hk7).non_slot hk8, v3, hB8, ?_⟩
      · rw [hgn]; rfl
      · have : putM l k x = l.take (rank l k) ++ [(k, x)] ++ l.drop nd := by unfold putM; rw [hth, hnd]; simp
        rw [this]
        exact hP8
    · refine x_buildSliceS1 (by rfl) rfl rfl (by omega) (by rfl) rfl ⟨rfl, rfl⟩ ?_
      intro H4 hn4
      have hk4 := hn4.keep
      refine ⟨okm_keep hk4 (fun _ _ h => h), ?_⟩
      refine x_append (by rfl) (by rfl) (by rfl) rfl rfl rfl (Own.nil 2 H4) hU1.sl (by rw [pcs_length, k1.len]) (c1.keep hk4 (fun _ h => h)) (pcs_oneC k1 (fun v b h => isSl_oneC h.sl)) (by omega) rfl ⟨rfl, rfl⟩ ?_
      intro v1 H5 hap1
      have hk5 := hk4.non_trans (hap1.old (Fresh.nil H4) (Keep.refl _ _))
      have hf1 : Fresh H3 v1 := fun hc => by have := hap1.fresh (Fresh.nil H4) (Nat.le_refl _) hc; have := hk4.size; omega
      refine ⟨okm_keep (hap1.old (Fresh.nil H4) (Keep.refl _ _)) (fun _ _ h => h), ?_⟩
      have hv1 : Own 2 H5 v1 (l.take (rank l k)).length (pcs q1) := by
        have := hap1.own
        rw [Nat.zero_add, List.nil_append] at this
        exact this
      have hb5 : Blk H5 H3.size [c, .int .u64 x] := hn4.blk.keep (hap1.old (Fresh.nil H4) (Keep.refl _ _)) (fun h => h)
      refine x_append (by rfl) (by rfl) (by rfl) rfl rfl rfl hv1 (isSl_some (Nat.le_refl _) (by omega)) (m := 1) (cx := [c, .int .u64 x]) rfl (hb5.cels 0 2 (by simp)) (two_oneC' (isSl_oneC hown.sl)) (by omega) rfl ⟨rfl, rfl⟩ ?_
      intro v2 H6 hap2
      have hk6 := hap2.old hf1 hk5
      have hf2 := hap2.fresh hf1 (by have := hk5.size; omega)
      refine ⟨okm_keep hap2.keep (fun b hb e => by have := hf1 (by omega); have := e.1; omega), ?_⟩
      refine zhrun ?_ ?_
      refine x_append (by rfl) (by rfl) (by rfl) rfl rfl rfl hap2.own hU2.sl (by rw [pcs_length, k2.len]) (c2.keep hk6 (fun _ h => h)) (pcs_oneC k2 (fun v b h => isSl_oneC h.sl)) (by omega) rfl ⟨rfl, rfl⟩ ?_
      intro v3 H7 hap3
      have hk7 := hap3.old hf2 hk6
      have hf3 := hap3.fresh hf2 (by have := hk6.size; omega)
      refine ⟨okm_keep hap3.keep (fun b hb e => by have := hf2 (by omega); have := e.1; omega), ?_⟩
      refine zhrun ?_ ?_
      have hB7 := hB3.keep hk7 (fun h => h)
      refine x_store rfl rfl rfl (isSl_oneC hap3.own.sl) hB7 (by simp) ⟨rfl, rfl⟩ ?_
      intro H8 hB8 hk8 hs8
      refine ⟨okm_free (fun c => by cases c <;> kernel_rfl), ?_⟩
      have hP7 : Ps H7 v3 (l.take (rank l k) ++ [(k, x)] ++ l.drop nd) := by
        have hkk : Pk (Bs H7) (q1 ++ [(c, x)] ++ q2) (l.take (rank l k) ++ [(k, x)] ++ l.drop nd) := ((k1.mono fun _ _ h => h.keepN hk7).append (Pk.one (p := (k, x)) (hown.keep hk7 (fun _ h => h)).bs)).append (k2.mono fun _ _ h => h.keepN hk7)
        refine ⟨by rw [List.length_append, List.length_append]; exact hap3.own.sl, q1 ++ [(c, x)] ++ q2, hkk, ?_⟩
        rw [pcs_append, pcs_append]
        exact hap3.own.cels
      have hP8 := hP7.keep_slot hB7 sU hk8
      refine zhrun ?_ ?_
      refine zrun ?_ ?_
      refine cw_ret3 rfl rfl rfl rfl ⟨?_, (hk03.non_trans hk7).non_slot hk8, v3, hB8, ?_⟩
      · rw [hgn]; rfl
      · have : putM l k x = l.take (rank l k) ++ [(k, x)] ++ l.drop nd := by unfold putM; rw [hth, hnd]; simp
        rw [this]
        exact hP8
  · obtain ⟨p, hp, hpk⟩ : ∃ p, l[rank l k]? = some p ∧ p.1 = k := by
      unfold there at hth
      cases h : l[rank l k]? with
      | none => rw [h] at hth; cases hth
      | some p => rw [h] at hth; exact ⟨p, rfl, by simpa using hth⟩
    have hgn : getM l k = some p.2 := by
      unfold getM
      rw [hp]
      simp [hpk]
    have hlt := (List.getElem?_eq_some_iff.1 hp).1
    obtain ⟨kk, a1, a2, a3⟩ := hP3.at_ _ p hp
    obtain ⟨nd, hnd⟩ : ∃ nd, nd = rank l k + 1 := ⟨_, rfl⟩
    have hdl : (l.drop nd).length = l.length - nd := by simp
    have e1 : ((rank l k : Int) + 1).toNat = nd := by omega
    refine zrun ?_ ?_
    refine x_load rfl rfl (hpmt (hc0)) rfl trivial ?_
    refine zrun ?_ ?_
    refine x_load rfl rfl (hpmt (a2)) rfl trivial ?_
    refine zrun ?_ ?_
    refine cw_held (fun _ => Keep Non H3) ⟨[7, 9, 10, 18, 21], [(4, 0), (8, 0), (14, 0)]⟩ (.op 0 (.op 1 (.op 2 (.op 3 (.op 4 (.op 5 (.op 6 (.op 8 (.op 11 (.op 12 (.op 13 (.op 14 (.op 15 (.op 16 (.op 17 (.alt (.op 7 (.op 9 (.op 10 (.op 18 (.op 19 (.op 20 (.op 21 (.nil)))))))) (.op 9 (.op 7 (.op 10 (.op 18 (.op 19 (.op 20 (.op 21 (.nil)))))))))))))))))))))))) panicOk_body mixed (by kernel_rfl) ?_
    refine zhrun ?_ ?_
    refine x_load rfl rfl (hpmk rfl (fun _ hk => hk.cel hc0 (fun h => h))) rfl (okq_load rfl rfl (by assumption)) ?_
    refine zhrun ?_ ?_
    refine x_slice_h rfl rfl rfl (by assumption) (by omega) (by omega) rfl (okq_reg rfl rfl) ?_
    intro u1 hu1 hcut1
    have hU1 := hP3.cut (a := 0) (b := rank l k) hu1 hcut1 (by omega) (by omega)
    rw [List.drop_zero] at hU1
    refine zhrun ?_ ?_
    refine x_loads rfl rfl rfl (hpmk rfl (fun _ hk => a0.keep hk (fun _ h => h))) rfl (okq_load rfl rfl (by assumption)) ?_
    refine zhrun ?_ ?_
    refine x_load rfl rfl (hpmk rfl (fun _ hk => hk.cel hc0 (fun h => h))) rfl (okq_load rfl rfl (by assumption)) ?_
    refine zhrun ?_ ?_
    refine x_slice_l rfl rfl rfl (by assumption) (by omega) (by omega) rfl (okq_reg rfl rfl) ?_
    intro u2 hu2 hcut2
    have hU2 := hP3.cut (a := nd) (b := l.length) (by rw [e1] at hu2; exact hu2) (by rw [e1] at hcut2; exact hcut2) (by omega) (by omega)
    rw [List.take_length] at hU2
    obtain ⟨q1, k1, c1⟩ := hU1.row
    obtain ⟨q2, k2, c2⟩ := hU2.row
    refine x_alt ?_ ?_
    · refine x_append (by rfl) (by rfl) (by rfl) rfl rfl rfl (Own.nil 2 H3) hU1.sl (by rw [pcs_length, k1.len]) c1 (pcs_oneC k1 (fun v b h => isSl_oneC h.sl)) (by omega) rfl ⟨rfl, rfl⟩ ?_
      intro v1 H4 hap1
      have hk4 := hap1.old (Fresh.nil H3) (Keep.refl _ _)
      have hf1 := hap1.fresh (Fresh.nil H3) (Nat.le_refl _)
      refine ⟨okm_keep hk4 (fun _ _ h => h), ?_⟩
      refine x_buildSliceS1 (by rfl) rfl rfl (by omega) (by rfl) rfl ⟨rfl, rfl⟩ ?_
      intro H5 hn5
      have hk5 := hn5.old hk4
      refine ⟨okm_keep hn5.keep (fun _ _ h => h), ?_⟩
      have hv1 : Own 2 H5 v1 (l.take (rank l k)).length (pcs q1) := by
        have := hap1.own.keep hn5.keep (fun _ h => h)
        rw [Nat.zero_add, List.nil_append] at this
        exact this
      have hb5 : Blk H5 H4.size [c, .int .u64 x] := hn5.blk
      refine x_append (by rfl) (by rfl) (by rfl) rfl rfl rfl hv1 (isSl_some (Nat.le_refl _) (by omega)) (m := 1) (cx := [c, .int .u64 x]) rfl (hb5.cels 0 2 (by simp)) (two_oneC' (isSl_oneC hown.sl)) (by omega) rfl ⟨rfl, rfl⟩ ?_
      intro v2 H6 hap2
      have hk6 := hap2.old hf1 hk5
      have hf2 := hap2.fresh hf1 (by have := hk5.size; omega)
      refine ⟨okm_keep hap2.keep (fun b hb e => by have := hf1 (by omega); have := e.1; omega), ?_⟩
      refine zhrun ?_ ?_
      refine x_append (by rfl) (by rfl) (by rfl) rfl rfl rfl hap2.own hU2.sl (by rw [pcs_length, k2.len]) (c2.keep hk6 (fun _ h => h)) (pcs_oneC k2 (fun v b h => isSl_oneC h.sl)) (by omega) rfl ⟨rfl, rfl⟩ ?_
      intro v3 H7 hap3
      have hk7 := hap3.old hf2 hk6
      have hf3 := hap3.fresh hf2 (by have := hk6.size; omega)
      refine ⟨okm_keep hap3.keep (fun b hb e => by have := hf2 (by omega); have := e.1; omega), ?_⟩
      refine zhrun ?_ ?_
      have hB7 := hB3.keep hk7 (fun h => h)
      refine x_store rfl rfl rfl (isSl_oneC hap3.own.sl) hB7 (by simp) ⟨rfl, rfl⟩ ?_
      intro H8 hB8 hk8 hs8
      refine ⟨okm_free (fun c => by cases c <;> kernel_rfl), ?_⟩
      have hP7 : Ps H7 v3 (l.take (rank l k) ++ [(k, x)] ++ l.drop nd) := by
        have hkk : Pk (Bs H7) (q1 ++ [(c, x)] ++ q2) (l.take (rank l k) ++ [(k, x)] ++ l.drop nd) := ((k1.mono fun _ _ h => h.keepN hk7).append (Pk.one (p := (k, x)) (hown.keep hk7 (fun _ h => h)).bs)).append (k2.mono fun _ _ h => h.keepN hk7)
        refine ⟨by rw [List.length_append, List.length_append]; exact hap3.own.sl, q1 ++ [(c, x)] ++ q2, hkk, ?_⟩
        rw [pcs_append, pcs_append]
        exact hap3.own.cels
      have hP8 := hP7.keep_slot hB7 sU hk8
      refine zhrun ?_ ?_
      refine zrun ?_ ?_
      refine cw_ret3 rfl rfl rfl rfl ⟨?_, (hk03.non_trans hk7).non_slot hk8, v3, hB8, ?_⟩
      · rw [hgn]; rfl
      · have : putM l k x = l.take (rank l k) ++ [(k, x)] ++ l.drop nd := by unfold putM; rw [hth, hnd]; simp
        rw [this]
        exact hP8
    · refine x_buildSliceS1 (by rfl) rfl rfl (by omega) (by rfl) rfl ⟨rfl, rfl⟩ ?_
      intro H4 hn4
      have hk4 := hn4.keep
      refine ⟨okm_keep hk4 (fun _ _ h => h), ?_⟩
      refine x_append (by rfl) (by rfl) (by rfl) rfl rfl rfl (Own.nil 2 H4) hU1.sl (by rw [pcs_length, k1.len]) (c1.keep hk4 (fun _ h => h)) (pcs_oneC k1 (fun v b h => isSl_oneC h.sl)) (by omega) rfl ⟨rfl, rfl⟩ ?_
      intro v1 H5 hap1
      have hk5 := hk4.non_trans (hap1.old (Fresh.nil H4) (Keep.refl _ _))
      have hf1 : Fresh H3 v1 := fun hc => by have := hap1.fresh (Fresh.nil H4) (Nat.le_refl _) hc; have := hk4.size; omega
      refine ⟨okm_keep (hap1.old (Fresh.nil H4) (Keep.refl _ _)) (fun _ _ h => h), ?_⟩
      have hv1 : Own 2 H5 v1 (l.take (rank l k)).length (pcs q1) := by
        have := hap1.own
        rw [Nat.zero_add, List.nil_append] at this
        exact this
      have hb5 : Blk H5 H3.size [c, .int .u64 x] := hn4.blk.keep (hap1.old (Fresh.nil H4) (Keep.refl _ _)) (fun h => h)
      refine x_append (by rfl) (by rfl) (by rfl) rfl rfl rfl hv1 (isSl_some (Nat.le_refl _) (by omega)) (m := 1) (cx := [c, .int .u64 x]) rfl (hb5.cels 0 2 (by simp)) (two_oneC' (isSl_oneC hown.sl)) (by omega) rfl ⟨rfl, rfl⟩ ?_
      intro v2 H6 hap2
      have hk6 := hap2.old hf1 hk5
      have hf2 := hap2.fresh hf1 (by have := hk5.size; omega)
      refine ⟨okm_keep hap2.keep (fun b hb e => by have := hf1 (by omega); have := e.1; omega), ?_⟩
      refine zhrun ?_ ?_
      refine x_append (by rfl) (by rfl) (by rfl) rfl rfl rfl hap2.own hU2.sl (by rw [pcs_length, k2.len]) (c2.keep hk6 (fun _ h => h)) (pcs_oneC k2 (fun v b h => isSl_oneC h.sl)) (by omega) rfl ⟨rfl, rfl⟩ ?_
      intro v3 H7 hap3
      have hk7 := hap3.old hf2 hk6
      have hf3 := hap3.fresh hf2 (by have := hk6.size; omega)
      refine ⟨okm_keep hap3.keep (fun b hb e => by have := hf2 (by omega); have := e.1; omega), ?_⟩
      refine zhrun ?_ ?_
      have hB7 := hB3.keep hk7 (fun h => h)
      refine x_store rfl rfl rfl (isSl_oneC hap3.own.sl) hB7 (by simp) ⟨rfl, rfl⟩ ?_
      intro H8 hB8 hk8 hs8
      refine ⟨okm_free (fun c => by cases c <;> kernel_rfl), ?_⟩
      have hP7 : Ps H7 v3 (l.take (rank l k) ++ [(k, x)] ++ l.drop nd) := by
        have hkk : Pk (Bs H7) (q1 ++ [(c, x)] ++ q2) (l.take (rank l k) ++ [(k, x)] ++ l.drop nd) := ((k1.mono fun _ _ h => h.keepN hk7).append (Pk.one (p := (k, x)) (hown.keep hk7 (fun _ h => h)).bs)).append (k2.mono fun _ _ h => h.keepN hk7)
        refine ⟨by rw [List.length_append, List.length_append]; exact hap3.own.sl, q1 ++ [(c, x)] ++ q2, hkk, ?_⟩
        rw [pcs_append, pcs_append]
        exact hap3.own.cels
      have hP8 := hP7.keep_slot hB7 sU hk8
      refine zhrun ?_ ?_
      refine zrun ?_ ?_
      refine cw_ret3 rfl rfl rfl rfl ⟨?_, (hk03.non_trans hk7).non_slot hk8, v3, hB8, ?_⟩
      · rw [hgn]; rfl
      · have : putM l k x = l.take (rank l k) ++ [(k, x)] ++ l.drop nd := by unfold putM; rw [hth, hnd]; simp
        rw [this]
        exact hP8

theorem ref_New {va : Value} {l : List Pr} {H : Heap} (hA : Ps H va l) (hl : l.length ≤ 100000) (hk : ∀ p ∈ l, p.1.length ≤ 65535) : Ret Tryd.prog 13 [va] H (fun v H' => Keep Non H H' ∧ ∃ b, v = ptr b 0 ∧ H.size ≤ b ∧ Mp H' b (newM l)) := by
  have sA := hA.sl
  have cA := sA.cap
  refine ret_of Tryd.func13 rfl rfl rfl rfl ?_
  intro w0
  refine zrun ?_ ?_
  refine x_build (cs := [.slice none 0 0]) rfl rfl rfl (by simp) rfl trivial ?_
  refine x_box rfl rfl rfl trivial ?_
  intro H1 hn1
  refine ⟨trivial, ?_⟩
  refine zrun ?_ ?_
  refine cw_loop (fun j : Nat => [(0, va), (3, ptr H.size 0), (4, .int .i64 j)]) (fun j H' => j ≤ l.length ∧ Keep Non H H' ∧ Mp H' H.size (newM (l.take j))) (fun j => l.length - j) 0 ⟨rfl, rfl, rfl, trivial⟩ ⟨Nat.zero_le _, hn1.keep, _, hn1.blk, Ps.nil _⟩ ?_
  rintro j H2 ⟨hj, hk2, hM⟩
  refine zrun ?_ ?_
  refine cw_cond rfl (fun h1 => ?_) (fun h1 => ?_) <;> (try simp at h1)
  · obtain ⟨p, hp⟩ := getp (l := l) h1
    obtain ⟨k, b1, b2, b3⟩ := hA.at_ j p hp
    have a1 := hk2.cel b1 (fun h => h)
    have a2 := hk2.cel b2 (fun h => h)
    have a3 := b3.keepN hk2
    have hlt := lt_of_cel b1
    have hpl := hk p (List.mem_of_getElem? hp)
    have hnl := newM_length (l.take j)
    have hjl : (l.take j).length = j := by simp; omega
    have hkr := Keep.refl (fun b => H.size ≤ b) H2
    refine zrun ?_ ?_
    refine cw_held (fun _ => Keep (fun b => H.size ≤ b) H2) ⟨[11], [(5, 0), (10, 0)]⟩ (.op 0 (.op 1 (.op 2 (.op 3 (.op 4 (.op 5 (.op 6 (.op 7 (.op 8 (.op 9 (.op 10 (.op 11 (.nil))))))))))))) panicOk_body mixed (by kernel_rfl) ?_
    refine zhrun ?_ ?_
    refine x_load rfl rfl (hpmk rfl (fun _ hk => hk.cel a1 (by omega))) rfl (okq_load rfl rfl (by assumption)) ?_
    refine zhrun ?_ ?_
    refine x_load rfl rfl (hpmk rfl (fun _ hk => hk.cel a2 (by omega))) rfl (okq_load rfl rfl (by assumption)) ?_
    refine x_call rfl rfl rfl ⟨rfl, rfl⟩ (ref7_Put p.2 hM a3 hpl (by omega)) ?_
    rintro _ H3 ⟨rfl, hk3, hM3⟩
    refine ⟨okm_keep hk3 (fun b hb e => by subst e; exact Nat.le_refl _), ?_⟩
    refine zhrun ?_ ?_
    refine zrun ?_ ?_
    refine nw_round (j + 1) ⟨rfl, rfl, rfl, trivial⟩ ⟨by omega, keep_at hk2 hk3 (Nat.le_refl _), ?_⟩ (by omega)
    rw [newM_take hp]
    exact hM3
  · have hje : j = l.length := by omega
    subst hje
    rw [List.take_length] at hM
    refine zrun ?_ ?_
    exact cw_ret1 rfl rfl ⟨hk2, _, rfl, Nat.le_refl _, hM⟩
end Go.Proofs.YtkdmcbacofafpaaDoor.X
