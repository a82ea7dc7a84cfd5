/- The package burst: how many cells a pair takes. -/
import Derived.Test.YtaloblomncjgkaaBur5
namespace Go.Proofs.Ytaloblomncjgkaa.X
open Go Go.Proofs
set_option linter.unusedVariables false
set_option linter.unusedSimpArgs false
set_option maxRecDepth 10000
set_option maxHeartbeats 2000000

theorem there_of_fnd {ps : List Pr} {k : Bytes} (hr : rises ps = true) : there ps k = (fnd ps k).isSome := by rw [fnd_getM hr, getM_is']

theorem burst_more {k : Bytes} {x : Int} {kk : Value} : ∀ (t : BT) {w : Bytes} {L : Lab} {vn : Value} {H : Heap}, Tv L H t w vn → L.In H → t.Wf w → KL L H kk k → begins k w = true → k.length ≤ 65535 → (t.put w (k, x)).size ≤ 1000000000000 → t.look w k = none →
    Ret Try.prog 49 [vn, .agg [kk, .int .u64 x].toArray] H (fun r H' => Keep Non H H' ∧ r = .int .i64 (((t.put w (k, x)).size : Int) - t.size)) := by
  intro t
  induction t with
  | nil =>
    intro w L vn H hT hL hW hK hb hl hsz hno
    rcases hT with ⟨_, rfl⟩ | ⟨b, _, h⟩
    · refine ret_of Try.func49 rfl rfl rfl rfl ?_
      intro w0
      repeat (first | refine za ?_ | refine zb ?_ | refine zd ?_ | refine zg ?_ | refine zj ?_ | refine zl ?_ | refine zr ?_ | refine zs ?_ | refine zt ?_ | refine zv ?_ | refine zw ?_ | refine zx ?_ | refine zy ?_ | refine zz ?_ | refine zza ?_ | refine zzb ?_ | refine zzc ?_ | refine zzd ?_ | refine zzf ?_ | refine zzg ?_)
      refine x_box rfl rfl rfl trivial ?_
      intro H1 hn1
      refine ⟨trivial, ?_⟩
      repeat (first | refine za ?_ | refine zb ?_ | refine zd ?_ | refine zg ?_ | refine zj ?_ | refine zl ?_ | refine zr ?_ | refine zs ?_ | refine zt ?_ | refine zv ?_ | refine zw ?_ | refine zx ?_ | refine zy ?_ | refine zz ?_ | refine zza ?_ | refine zzb ?_ | refine zzc ?_ | refine zzd ?_ | refine zzf ?_ | refine zzg ?_)
      exact cw_ret1 rfl rfl ⟨hn1.keep, rfl⟩
    · exact h.elim
  | shelf ps =>
    intro w L vn H hT hL hW hK hb hl hsz hno
    rcases hT with ⟨h, _⟩ | ⟨b, rfl, hT⟩
    · cases h
    have hwl := BT.beg_len hb
    have hr := hW.1.rise
    have h8 := hW.2.2
    have hle := rank_le ps k
    have hth : there ps k = false := by
      rw [there_of_fnd hr]
      have : fnd ps k = none := hno
      rw [this]
      rfl
    refine ret_of Try.func49 rfl rfl rfl rfl ?_
    intro w0
    repeat (first | refine za ?_ | refine zb ?_ | refine zd ?_ | refine zg ?_ | refine zj ?_ | refine zl ?_ | refine zr ?_ | refine zs ?_ | refine zt ?_ | refine zv ?_ | refine zw ?_ | refine zx ?_ | refine zy ?_ | refine zz ?_ | refine zza ?_ | refine zzb ?_ | refine zzc ?_ | refine zzd ?_ | refine zzf ?_ | refine zzg ?_)
    refine x_box rfl rfl rfl trivial ?_
    intro H1 hn1
    refine ⟨trivial, ?_⟩
    have hk1 := hn1.keep
    have hs1 := hn1.size
    have hT1 := hT.keepN hk1
    obtain ⟨h0, vk, vp, q, h1, h2, h3, h4, h5⟩ := id hT1
    have p0 : cel H1 H.size 0 = some kk := by rw [hn1.blk.cel]; rfl
    have c0 : cel H1 b 0 = some vk := by rw [h1.cel]; rfl
    have c1 : cel H1 b 1 = some vp := by rw [h1.cel]; rfl
    have c4 : cel H1 b 4 = some (.map none) := by rw [h1.cel]; rfl
    have sP := h3.sl
    have cP := sP.cap
    have hql := h5.len
    repeat (first | refine za ?_ | refine zb ?_ | refine zd ?_ | refine zg ?_ | refine zj ?_ | refine zl ?_ | refine zr ?_ | refine zs ?_ | refine zt ?_ | refine zv ?_ | refine zw ?_ | refine zx ?_ | refine zy ?_ | refine zz ?_ | refine zza ?_ | refine zzb ?_ | refine zzc ?_ | refine zzd ?_ | refine zzf ?_ | refine zzg ?_)
    refine x_load rfl rfl (hpmt (c4)) rfl trivial ?_
    repeat (first | refine za ?_ | refine zb ?_ | refine zd ?_ | refine zg ?_ | refine zj ?_ | refine zl ?_ | refine zr ?_ | refine zs ?_ | refine zt ?_ | refine zv ?_ | refine zw ?_ | refine zx ?_ | refine zy ?_ | refine zz ?_ | refine zza ?_ | refine zzb ?_ | refine zzc ?_ | refine zzd ?_ | refine zzf ?_ | refine zzg ?_)
    refine x_meqn rfl rfl rfl rfl trivial ?_
    repeat (first | refine za ?_ | refine zb ?_ | refine zd ?_ | refine zg ?_ | refine zj ?_ | refine zl ?_ | refine zr ?_ | refine zs ?_ | refine zt ?_ | refine zv ?_ | refine zw ?_ | refine zx ?_ | refine zy ?_ | refine zz ?_ | refine zza ?_ | refine zzb ?_ | refine zzc ?_ | refine zzd ?_ | refine zzf ?_ | refine zzg ?_)
    refine x_load rfl rfl (hpmt (p0)) rfl trivial ?_
    repeat (first | refine za ?_ | refine zb ?_ | refine zd ?_ | refine zg ?_ | refine zj ?_ | refine zl ?_ | refine zr ?_ | refine zs ?_ | refine zt ?_ | refine zv ?_ | refine zw ?_ | refine zx ?_ | refine zy ?_ | refine zz ?_ | refine zza ?_ | refine zzb ?_ | refine zzc ?_ | refine zzd ?_ | refine zzf ?_ | refine zzg ?_)
    refine x_call rfl rfl rfl trivial (burst_at hT1 hr (by omega) (hK.1.keepN hk1)) ?_
    rintro _ H2 ⟨hk2, rfl⟩
    refine ⟨trivial, ?_⟩
    have hk02 := hk1.non_trans hk2
    have hs2 := hk2.size
    have hkr := Keep.refl Non H2
    rw [hth]
    repeat (first | refine za ?_ | refine zb ?_ | refine zd ?_ | refine zj ?_ | refine zl ?_ | refine zr ?_ | refine zs ?_ | refine zt ?_ | refine zv ?_ | refine zw ?_ | refine zx ?_ | refine zy ?_ | refine zz ?_ | refine zza ?_ | refine zzb ?_ | refine zzc ?_ | refine zzf ?_ | refine zzg ?_)
    refine cw_held (fun _ => Keep Non H2) ⟨[8, 11, 12, 13, 14], [(3, 0), (7, 0), (10, 0)]⟩ (.op 0 (.op 1 (.op 2 (.op 3 (.op 4 (.op 5 (.op 6 (.op 7 (.op 9 (.op 10 (.alt (.op 8 (.op 11 (.op 12 (.op 13 (.op 14 (.op 15 (.op 16 (.nil)))))))) (.op 11 (.op 8 (.op 12 (.op 13 (.op 14 (.op 15 (.op 16 (.nil))))))))))))))))))) panicOk_body mixed (by kernel_rfl) ?_
    repeat (first | refine za ?_ | refine zb ?_ | refine zd ?_ | refine zj ?_ | refine zl ?_ | refine zr ?_ | refine zs ?_ | refine zt ?_ | refine zv ?_ | refine zw ?_ | refine zx ?_ | refine zy ?_ | refine zz ?_ | refine zza ?_ | refine zzb ?_ | refine zzc ?_ | refine zzd ?_ | refine zzf ?_ | refine zzg ?_)
    refine x_load rfl rfl (hpmk rfl (fun _ hk => hk.cel (hk2.cel c0 (fun h => h)) (fun h => h))) rfl (okq_load rfl rfl (by assumption)) ?_
    repeat (first | refine za ?_ | refine zb ?_ | refine zd ?_ | refine zj ?_ | refine zl ?_ | refine zr ?_ | refine zs ?_ | refine zt ?_ | refine zv ?_ | refine zw ?_ | refine zx ?_ | refine zy ?_ | refine zz ?_ | refine zza ?_ | refine zzb ?_ | refine zzc ?_ | refine zzd ?_ | refine zzf ?_ | refine zzg ?_)
    refine x_load rfl rfl (hpmk rfl (fun _ hk => hk.cel (hk2.cel c1 (fun h => h)) (fun h => h))) rfl (okq_load rfl rfl (by assumption)) ?_
    repeat (first | refine za ?_ | refine zb ?_ | refine zd ?_ | refine zj ?_ | refine zl ?_ | refine zr ?_ | refine zs ?_ | refine zt ?_ | refine zv ?_ | refine zw ?_ | refine zx ?_ | refine zy ?_ | refine zz ?_ | refine zza ?_ | refine zzb ?_ | refine zzc ?_ | refine zzd ?_ | refine zzf ?_ | refine zzg ?_)
    refine x_loads (cs := [kk, .int .u64 x]) rfl rfl rfl (hpmk rfl (fun _ hk => ((hn1.blk.cels 0 2 (by simp)).keep hk2 (fun _ h => h)).keep hk (fun _ h => h))) rfl (okq_load rfl rfl (by assumption)) ?_
    have hput : (BT.shelf ps).put w (k, x) = BT.built w (putM ps k x) := by unfold BT.put; exact if_neg (by rw [hth]; simp)
    rw [hput] at hsz
    repeat (first | refine za ?_ | refine zb ?_ | refine zd ?_ | refine zj ?_ | refine zl ?_ | refine zr ?_ | refine zs ?_ | refine zt ?_ | refine zv ?_ | refine zw ?_ | refine zx ?_ | refine zy ?_ | refine zz ?_ | refine zza ?_ | refine zzb ?_ | refine zzc ?_ | refine zzd ?_ | refine zzf ?_ | refine zzg ?_)
    refine x_alt ?_ ?_
    · refine x_call rfl rfl rfl ⟨rfl, rfl⟩ (slices_CloneP sP hql (h3.cels.keep hk2 (fun _ h => h)) (pcs_oneC h5 fun v b h => isSl_oneC h.1.sl) (by omega)) ?_
      rintro cp H3 ⟨hk3, hcp, hfcp⟩
      refine ⟨okm_keep hk3 (fun _ _ h => h), ?_⟩
      refine x_buildSliceS1 (by rfl) rfl rfl (by omega) (by rfl) rfl ⟨rfl, rfl⟩ ?_
      intro H4 hn4
      refine ⟨okm_keep hn4.keep (fun _ _ h => h.elim), ?_⟩
      have hcp4 : Own 2 H4 cp ps.length (pcs q) := hcp.keep hn4.keep (fun _ h => h)
      have hk4 : Keep Non H2 H4 := hn4.old hk3
      have hraw : ∃ T, H4[H3.size]? = some (.cells [kk, .int .u64 x].toArray T (0, 0)) := hn4.raw
      have hane : 0 < sc cp → H3.size ≠ sb cp := fun hc => by have := hcp.lt hc; omega
      have hs4 := hk4.size
      rw [← hql] at hcp4
      refine x_call rfl rfl rfl ⟨rfl, rfl⟩ (slices_Insert (kk := kk) (x := x) (i := rank ps k) hcp4 (by omega) (by omega) (pcs_oneC h5 fun v b h => isSl_oneC h.1.sl) (isSl_oneC hK.1.sl) hraw hane) ?_
      rintro row H5 ⟨hrow, hk5, hpl⟩
      refine ⟨okm_keep hk5 (fun y hy e => by have := hfcp e.2; have := e.1; omega), ?_⟩
      have hk25 : Keep Non H2 H5 := hk4.old hk5 (fun y hy e => by have := hfcp e.2; have := e.1; omega)
      have hk05 := hk02.non_trans hk25
      have hs5 := hk5.size
      have hplc : 0 < sc row → H.size ≤ sb row := fun hc => by
        rcases hpl with ⟨e1, e2⟩ | e1
        · have := hfcp e2; omega
        · omega
      have hPk : Pk (KL L H5) (q.take (rank ps k) ++ (kk, x) :: q.drop (rank ps k)) (putM ps k x) := by
        rw [putM_not' hth]
        have ho := h5.mono (K' := KL L H5) fun _ _ hb => (hb.keepN hk2).keepN hk25
        exact (ho.take _).append ((Pk.one (p := (k, x)) (hK.keepN hk05)).append (ho.drop _))
      have hrowl : (putM ps k x).length = q.length + 1 := by rw [putM_not' hth, List.length_append, List.length_cons, List.length_take, List.length_drop]; omega
      repeat (first | refine za ?_ | refine zb ?_ | refine zd ?_ | refine zj ?_ | refine zl ?_ | refine zr ?_ | refine zs ?_ | refine zt ?_ | refine zv ?_ | refine zw ?_ | refine zx ?_ | refine zy ?_ | refine zz ?_ | refine zza ?_ | refine zzb ?_ | refine zzc ?_ | refine zzd ?_ | refine zzf ?_ | refine zzg ?_)
      refine x_call rfl rfl rfl ⟨rfl, rfl⟩ (burst_built (70000 - w.length) (L := L) (B := H.size) (ps := putM ps k x) (by omega) (BT.Ok.put (p := (k, x)) hW.1 hb hl) (h2.1.keepN (hk2.non_trans hk25)) (by rw [hrowl]; exact hrow) hPk (hL.mono (by omega)) (fun hc => ⟨hL.off (hplc hc), hplc hc⟩) (by omega) (by omega)) ?_
      rintro _ H6 ⟨hk6, bn, L6, rfl, hbn, hE6, hI6, hT6⟩
      refine ⟨okm_keep hk6 (fun _ _ h => h), ?_⟩
      have hk06 := hk05.non_trans hk6
      repeat (first | refine za ?_ | refine zb ?_ | refine zd ?_ | refine zj ?_ | refine zl ?_ | refine zr ?_ | refine zs ?_ | refine zt ?_ | refine zv ?_ | refine zw ?_ | refine zx ?_ | refine zy ?_ | refine zz ?_ | refine zza ?_ | refine zzb ?_ | refine zzc ?_ | refine zzd ?_ | refine zzf ?_ | refine zzg ?_)
      refine x_call rfl rfl rfl ⟨rfl, rfl⟩ (burst_size (BT.built w (putM ps k x)) (.inr ⟨bn, rfl, hT6⟩) hsz) ?_
      rintro _ H7 ⟨hk7, rfl⟩
      refine ⟨okm_keep hk7 (fun _ _ h => h), ?_⟩
      repeat (first | refine za ?_ | refine zb ?_ | refine zd ?_ | refine zj ?_ | refine zl ?_ | refine zr ?_ | refine zs ?_ | refine zt ?_ | refine zv ?_ | refine zw ?_ | refine zx ?_ | refine zy ?_ | refine zz ?_ | refine zza ?_ | refine zzb ?_ | refine zzc ?_ | refine zzd ?_ | refine zzf ?_ | refine zzg ?_)
      repeat (first | refine za ?_ | refine zb ?_ | refine zd ?_ | refine zg ?_ | refine zj ?_ | refine zl ?_ | refine zr ?_ | refine zs ?_ | refine zt ?_ | refine zv ?_ | refine zw ?_ | refine zx ?_ | refine zy ?_ | refine zz ?_ | refine zza ?_ | refine zzb ?_ | refine zzc ?_ | refine zzd ?_ | refine zzf ?_ | refine zzg ?_)
      refine cw_ret1 rfl rfl ?_
      rw [hput]
      exact ⟨hk06.non_trans hk7, by simp [BT.size]⟩
    · refine x_buildSliceS1 (by rfl) rfl rfl (by omega) (by rfl) rfl ⟨rfl, rfl⟩ ?_
      intro H3 hn3
      refine ⟨okm_keep hn3.keep (fun _ _ h => h.elim), ?_⟩
      refine x_call rfl rfl rfl ⟨rfl, rfl⟩ (slices_CloneP sP hql (h3.cels.keep (hn3.old hk2) (fun _ h => h)) (pcs_oneC h5 fun v b h => isSl_oneC h.1.sl) (by omega)) ?_
      rintro cp H4 ⟨hk34, hcp4, hfcp3⟩
      refine ⟨okm_keep hk34 (fun _ _ h => h), ?_⟩
      have hfcp : Fresh H2 cp := fun hc => by have := hfcp3 hc; have := hn3.size; omega
      have hk4 : Keep Non H2 H4 := hn3.keep.non_trans hk34
      have hraw : ∃ T, H4[H2.size]? = some (.cells [kk, .int .u64 x].toArray T (0, 0)) := let ⟨T, h⟩ := hn3.raw; ⟨T, hk34.get h (fun h => h)⟩
      have hane : 0 < sc cp → H2.size ≠ sb cp := fun hc => by have := hfcp3 hc; have := hn3.size; omega
      have hs4 := hk4.size
      rw [← hql] at hcp4
      refine x_call rfl rfl rfl ⟨rfl, rfl⟩ (slices_Insert (kk := kk) (x := x) (i := rank ps k) hcp4 (by omega) (by omega) (pcs_oneC h5 fun v b h => isSl_oneC h.1.sl) (isSl_oneC hK.1.sl) hraw hane) ?_
      rintro row H5 ⟨hrow, hk5, hpl⟩
      refine ⟨okm_keep hk5 (fun y hy e => by have := hfcp e.2; have := e.1; omega), ?_⟩
      have hk25 : Keep Non H2 H5 := hk4.old hk5 (fun y hy e => by have := hfcp e.2; have := e.1; omega)
      have hk05 := hk02.non_trans hk25
      have hs5 := hk5.size
      have hplc : 0 < sc row → H.size ≤ sb row := fun hc => by
        rcases hpl with ⟨e1, e2⟩ | e1
        · have := hfcp e2; omega
        · omega
      have hPk : Pk (KL L H5) (q.take (rank ps k) ++ (kk, x) :: q.drop (rank ps k)) (putM ps k x) := by
        rw [putM_not' hth]
        have ho := h5.mono (K' := KL L H5) fun _ _ hb => (hb.keepN hk2).keepN hk25
        exact (ho.take _).append ((Pk.one (p := (k, x)) (hK.keepN hk05)).append (ho.drop _))
      have hrowl : (putM ps k x).length = q.length + 1 := by rw [putM_not' hth, List.length_append, List.length_cons, List.length_take, List.length_drop]; omega
      repeat (first | refine za ?_ | refine zb ?_ | refine zd ?_ | refine zj ?_ | refine zl ?_ | refine zr ?_ | refine zs ?_ | refine zt ?_ | refine zv ?_ | refine zw ?_ | refine zx ?_ | refine zy ?_ | refine zz ?_ | refine zza ?_ | refine zzb ?_ | refine zzc ?_ | refine zzd ?_ | refine zzf ?_ | refine zzg ?_)
      refine x_call rfl rfl rfl ⟨rfl, rfl⟩ (burst_built (70000 - w.length) (L := L) (B := H.size) (ps := putM ps k x) (by omega) (BT.Ok.put (p := (k, x)) hW.1 hb hl) (h2.1.keepN (hk2.non_trans hk25)) (by rw [hrowl]; exact hrow) hPk (hL.mono (by omega)) (fun hc => ⟨hL.off (hplc hc), hplc hc⟩) (by omega) (by omega)) ?_
      rintro _ H6 ⟨hk6, bn, L6, rfl, hbn, hE6, hI6, hT6⟩
      refine ⟨okm_keep hk6 (fun _ _ h => h), ?_⟩
      have hk06 := hk05.non_trans hk6
      repeat (first | refine za ?_ | refine zb ?_ | refine zd ?_ | refine zj ?_ | refine zl ?_ | refine zr ?_ | refine zs ?_ | refine zt ?_ | refine zv ?_ | refine zw ?_ | refine zx ?_ | refine zy ?_ | refine zz ?_ | refine zza ?_ | refine zzb ?_ | refine zzc ?_ | refine zzd ?_ | refine zzf ?_ | refine zzg ?_)
      refine x_call rfl rfl rfl ⟨rfl, rfl⟩ (burst_size (BT.built w (putM ps k x)) (.inr ⟨bn, rfl, hT6⟩) hsz) ?_
      rintro _ H7 ⟨hk7, rfl⟩
      refine ⟨okm_keep hk7 (fun _ _ h => h), ?_⟩
      repeat (first | refine za ?_ | refine zb ?_ | refine zd ?_ | refine zj ?_ | refine zl ?_ | refine zr ?_ | refine zs ?_ | refine zt ?_ | refine zv ?_ | refine zw ?_ | refine zx ?_ | refine zy ?_ | refine zz ?_ | refine zza ?_ | refine zzb ?_ | refine zzc ?_ | refine zzd ?_ | refine zzf ?_ | refine zzg ?_)
      repeat (first | refine za ?_ | refine zb ?_ | refine zd ?_ | refine zg ?_ | refine zj ?_ | refine zl ?_ | refine zr ?_ | refine zs ?_ | refine zt ?_ | refine zv ?_ | refine zw ?_ | refine zx ?_ | refine zy ?_ | refine zz ?_ | refine zza ?_ | refine zzb ?_ | refine zzc ?_ | refine zzd ?_ | refine zzf ?_ | refine zzg ?_)
      refine cw_ret1 rfl rfl ?_
      rw [hput]
      exact ⟨hk06.non_trans hk7, by simp [BT.size]⟩
  | node own kids ih =>
    intro w L vn H hT hL hW hK hb hl hsz hno
    rcases hT with ⟨h, _⟩ | ⟨b, rfl, hT⟩
    · cases h
    have hwl := BT.beg_len hb
    have hw5 := hW.1
    obtain ⟨vk, m, f, hN⟩ := hT.nd
    refine ret_of Try.func49 rfl rfl rfl rfl ?_
    intro w0
    repeat (first | refine za ?_ | refine zb ?_ | refine zd ?_ | refine zg ?_ | refine zj ?_ | refine zl ?_ | refine zr ?_ | refine zs ?_ | refine zt ?_ | refine zv ?_ | refine zw ?_ | refine zx ?_ | refine zy ?_ | refine zz ?_ | refine zza ?_ | refine zzb ?_ | refine zzc ?_ | refine zzd ?_ | refine zzf ?_ | refine zzg ?_)
    refine x_box rfl rfl rfl trivial ?_
    intro H1 hn1
    refine ⟨trivial, ?_⟩
    have hk1 := hn1.keep
    have hs1 := hn1.size
    have p0 : cel H1 H.size 0 = some kk := by rw [hn1.blk.cel]; rfl
    have pp : Cels H1 H.size 0 [kk, .int .u64 x] := hn1.blk.cels 0 2 (by simp)
    have hN1 := hN.keepN hk1
    have h1 := hN1.blk
    have c0 : cel H1 b 0 = some vk := by rw [h1.cel]; rfl
    have c4a : cel H1 b 4 = some (.map (some m)) := by rw [h1.cel]; rfl
    have sK := hK.1.sl
    have sW := hN.key.1.sl
    repeat (first | refine za ?_ | refine zb ?_ | refine zd ?_ | refine zg ?_ | refine zj ?_ | refine zl ?_ | refine zr ?_ | refine zs ?_ | refine zt ?_ | refine zv ?_ | refine zw ?_ | refine zx ?_ | refine zy ?_ | refine zz ?_ | refine zza ?_ | refine zzb ?_ | refine zzc ?_ | refine zzd ?_ | refine zzf ?_ | refine zzg ?_)
    refine x_load rfl rfl (hpmt (c4a)) rfl trivial ?_
    repeat (first | refine za ?_ | refine zb ?_ | refine zd ?_ | refine zg ?_ | refine zj ?_ | refine zl ?_ | refine zr ?_ | refine zs ?_ | refine zt ?_ | refine zv ?_ | refine zw ?_ | refine zx ?_ | refine zy ?_ | refine zz ?_ | refine zza ?_ | refine zzb ?_ | refine zzc ?_ | refine zzd ?_ | refine zzf ?_ | refine zzg ?_)
    refine x_meqn rfl rfl rfl rfl trivial ?_
    repeat (first | refine za ?_ | refine zb ?_ | refine zd ?_ | refine zj ?_ | refine zl ?_ | refine zr ?_ | refine zs ?_ | refine zt ?_ | refine zv ?_ | refine zw ?_ | refine zx ?_ | refine zy ?_ | refine zz ?_ | refine zza ?_ | refine zzb ?_ | refine zzc ?_ | refine zzf ?_ | refine zzg ?_)
    refine cw_quiet mixed (by kernel_rfl) ?_
    repeat (first | refine za ?_ | refine zb ?_ | refine zd ?_ | refine zg ?_ | refine zj ?_ | refine zl ?_ | refine zr ?_ | refine zs ?_ | refine zt ?_ | refine zv ?_ | refine zw ?_ | refine zx ?_ | refine zy ?_ | refine zz ?_ | refine zza ?_ | refine zzb ?_ | refine zzc ?_ | refine zzd ?_ | refine zzf ?_ | refine zzg ?_)
    refine x_load rfl rfl (hpmt (p0)) rfl trivial ?_
    repeat (first | refine za ?_ | refine zb ?_ | refine zd ?_ | refine zg ?_ | refine zj ?_ | refine zl ?_ | refine zr ?_ | refine zs ?_ | refine zt ?_ | refine zv ?_ | refine zw ?_ | refine zx ?_ | refine zy ?_ | refine zz ?_ | refine zza ?_ | refine zzb ?_ | refine zzc ?_ | refine zzd ?_ | refine zzf ?_ | refine zzg ?_)
    refine x_load rfl rfl (hpmt (c0)) rfl trivial ?_
    repeat (first | refine za ?_ | refine zb ?_ | refine zd ?_ | refine zg ?_ | refine zj ?_ | refine zl ?_ | refine zr ?_ | refine zs ?_ | refine zt ?_ | refine zv ?_ | refine zw ?_ | refine zx ?_ | refine zy ?_ | refine zz ?_ | refine zza ?_ | refine zzb ?_ | refine zzc ?_ | refine zzd ?_ | refine zzf ?_ | refine zzg ?_)
    refine cw_cond rfl (fun hlen => ?_) (fun hlen => ?_) <;> (try simp at hlen)
    · have hc : k[w.length]? = none := List.getElem?_eq_none (by omega)
      have hput : (BT.node own kids).put w (k, x) = .node (some x) kids := BT.put_none hc
      repeat (first | refine za ?_ | refine zb ?_ | refine zd ?_ | refine zg ?_ | refine zj ?_ | refine zl ?_ | refine zr ?_ | refine zs ?_ | refine zt ?_ | refine zv ?_ | refine zw ?_ | refine zx ?_ | refine zy ?_ | refine zz ?_ | refine zza ?_ | refine zzb ?_ | refine zzc ?_ | refine zzd ?_ | refine zzf ?_ | refine zzg ?_)
      refine cw_ret1 rfl rfl ?_
      rw [hput]
      exact ⟨hk1, by simp [BT.size]⟩
    · obtain ⟨c, hc⟩ : ∃ c, k[w.length]? = some c := ⟨_, List.getElem?_eq_getElem (by omega)⟩
      have hput : (BT.node own kids).put w (k, x) = .node own (setF kids c ((kids c).put (w ++ [c]) (k, x))) := BT.put_some hc
      have hlook : (kids c).look (w ++ [c]) k = none := by
        have : (match k[w.length]? with | none => own | some c => (kids c).look (w ++ [c]) k) = none := by rw [BT.look] at hno; exact hno
        rw [hc] at this
        exact this
      have hsum := BT.size_kid own own kids c ((kids c).put (w ++ [c]) (k, x))
      have hdiff : (((BT.node own (setF kids c ((kids c).put (w ++ [c]) (k, x)))).size : Int) - ((BT.node own kids).size : Nat)) = ((((kids c).put (w ++ [c]) (k, x)).size : Int) - ((kids c).size : Nat)) := by
        generalize (BT.node own (setF kids c ((kids c).put (w ++ [c]) (k, x)))).size = a1 at hsum ⊢
        generalize (BT.node own kids).size = a2 at hsum ⊢
        omega
      rw [hput] at hsz
      have hkc' := le_sumB (fun b => (setF kids c ((kids c).put (w ++ [c]) (k, x)) b).size) c
      simp only [setF_at] at hkc'
      have hsz' : 1 + sumB (fun b => (setF kids c ((kids c).put (w ++ [c]) (k, x)) b).size) ≤ 1000000000000 := hsz
      have hkr := Keep.refl Non H1
      repeat (first | refine za ?_ | refine zb ?_ | refine zd ?_ | refine zj ?_ | refine zl ?_ | refine zr ?_ | refine zs ?_ | refine zt ?_ | refine zv ?_ | refine zw ?_ | refine zx ?_ | refine zy ?_ | refine zz ?_ | refine zza ?_ | refine zzb ?_ | refine zzc ?_ | refine zzf ?_ | refine zzg ?_)
      refine cw_held (fun _ => Keep Non H1) ⟨[15], [(3, 0), (5, 0), (9, 0), (12, 0), (13, 0), (14, 0)]⟩ (.op 0 (.op 1 (.op 2 (.op 3 (.op 4 (.op 5 (.op 6 (.op 7 (.op 8 (.op 9 (.op 10 (.op 11 (.op 12 (.op 13 (.op 14 (.op 15 (.op 16 (.nil)))))))))))))))))) panicOk_body mixed (by kernel_rfl) ?_
      repeat (first | refine za ?_ | refine zb ?_ | refine zd ?_ | refine zj ?_ | refine zl ?_ | refine zr ?_ | refine zs ?_ | refine zt ?_ | refine zv ?_ | refine zw ?_ | refine zx ?_ | refine zy ?_ | refine zz ?_ | refine zza ?_ | refine zzb ?_ | refine zzc ?_ | refine zzd ?_ | refine zzf ?_ | refine zzg ?_)
      refine x_load rfl rfl (hpmk rfl (fun _ hk => hk.cel c4a (fun h => h))) rfl (okq_load rfl rfl (by assumption)) ?_
      repeat (first | refine za ?_ | refine zb ?_ | refine zd ?_ | refine zj ?_ | refine zl ?_ | refine zr ?_ | refine zs ?_ | refine zt ?_ | refine zv ?_ | refine zw ?_ | refine zx ?_ | refine zy ?_ | refine zz ?_ | refine zza ?_ | refine zzb ?_ | refine zzc ?_ | refine zzd ?_ | refine zzf ?_ | refine zzg ?_)
      refine x_load rfl rfl (hpmk rfl (fun _ hk => hk.cel p0 (fun h => h))) rfl (okq_load rfl rfl (by assumption)) ?_
      repeat (first | refine za ?_ | refine zb ?_ | refine zd ?_ | refine zj ?_ | refine zl ?_ | refine zr ?_ | refine zs ?_ | refine zt ?_ | refine zv ?_ | refine zw ?_ | refine zx ?_ | refine zy ?_ | refine zz ?_ | refine zza ?_ | refine zzb ?_ | refine zzc ?_ | refine zzd ?_ | refine zzf ?_ | refine zzg ?_)
      refine x_load rfl rfl (hpmk rfl (fun _ hk => hk.cel c0 (fun h => h))) rfl (okq_load rfl rfl (by assumption)) ?_
      repeat (first | refine za ?_ | refine zb ?_ | refine zd ?_ | refine zj ?_ | refine zl ?_ | refine zr ?_ | refine zs ?_ | refine zt ?_ | refine zv ?_ | refine zw ?_ | refine zx ?_ | refine zy ?_ | refine zz ?_ | refine zza ?_ | refine zzb ?_ | refine zzc ?_ | refine zzd ?_ | refine zzf ?_ | refine zzg ?_)
      refine x_load rfl rfl (hpmk rfl (fun _ hk => ((hK.1.keepN hk1).keepN hk).get w.length c hc)) rfl (okq_load rfl rfl (by assumption)) ?_
      repeat (first | refine za ?_ | refine zb ?_ | refine zd ?_ | refine zj ?_ | refine zl ?_ | refine zr ?_ | refine zs ?_ | refine zt ?_ | refine zv ?_ | refine zw ?_ | refine zx ?_ | refine zy ?_ | refine zz ?_ | refine zza ?_ | refine zzb ?_ | refine zzc ?_ | refine zzd ?_ | refine zzf ?_ | refine zzg ?_)
      refine x_lookup rfl rfl rfl (hpmk rfl (fun _ hk => hN1.kd.keep hk (fun h => h))) rfl (okq_load rfl rfl (by assumption)) ?_
      repeat (first | refine za ?_ | refine zb ?_ | refine zd ?_ | refine zj ?_ | refine zl ?_ | refine zr ?_ | refine zs ?_ | refine zt ?_ | refine zv ?_ | refine zw ?_ | refine zx ?_ | refine zy ?_ | refine zz ?_ | refine zza ?_ | refine zzb ?_ | refine zzc ?_ | refine zzd ?_ | refine zzf ?_ | refine zzg ?_)
      refine x_loads (cs := [kk, .int .u64 x]) rfl rfl rfl (hpmk rfl (fun _ hk => pp.keep hk (fun _ h => h))) rfl (okq_load rfl rfl (by assumption)) ?_
      repeat (first | refine za ?_ | refine zb ?_ | refine zd ?_ | refine zj ?_ | refine zl ?_ | refine zr ?_ | refine zs ?_ | refine zt ?_ | refine zv ?_ | refine zw ?_ | refine zx ?_ | refine zy ?_ | refine zz ?_ | refine zza ?_ | refine zzb ?_ | refine zzc ?_ | refine zzd ?_ | refine zzf ?_ | refine zzg ?_)
      refine x_call rfl rfl rfl ⟨rfl, rfl⟩ (ih c ((Tv.kid hN.kids c).keepN hk1) (hL.mono (by omega)) (hW.2.1 c) (hK.keepN hk1) ((BT.beg_step hb).1 hc) hl (by omega) hlook) ?_
      rintro _ H2 ⟨hk2, rfl⟩
      refine ⟨okm_keep hk2 (fun _ _ h => h), ?_⟩
      repeat (first | refine za ?_ | refine zb ?_ | refine zd ?_ | refine zj ?_ | refine zl ?_ | refine zr ?_ | refine zs ?_ | refine zt ?_ | refine zv ?_ | refine zw ?_ | refine zx ?_ | refine zy ?_ | refine zz ?_ | refine zza ?_ | refine zzb ?_ | refine zzc ?_ | refine zzd ?_ | refine zzf ?_ | refine zzg ?_)
      repeat (first | refine za ?_ | refine zb ?_ | refine zd ?_ | refine zg ?_ | refine zj ?_ | refine zl ?_ | refine zr ?_ | refine zs ?_ | refine zt ?_ | refine zv ?_ | refine zw ?_ | refine zx ?_ | refine zy ?_ | refine zz ?_ | refine zza ?_ | refine zzb ?_ | refine zzc ?_ | refine zzd ?_ | refine zzf ?_ | refine zzg ?_)
      refine cw_ret1 rfl rfl ⟨hk1.non_trans hk2, ?_⟩
      rw [hput, hdiff]
end Go.Proofs.Ytaloblomncjgkaa.X
