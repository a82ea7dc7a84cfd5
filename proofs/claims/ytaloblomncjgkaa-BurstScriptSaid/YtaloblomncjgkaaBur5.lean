/- The package burst: put. -/
import Derived.Test.YtaloblomncjgkaaBur4
namespace Go.Proofs.Ytaloblomncjgkaa.X
open Go Go.Proofs
set_option linter.unusedVariables false
set_option linter.unusedSimpArgs false
set_option maxRecDepth 10000
set_option maxHeartbeats 2000000

theorem BT.put_some {own : Option Int} {kids : UInt8 → BT} {w : Bytes} {p : Pr} {c : UInt8} (h : p.1[w.length]? = some c) : (BT.node own kids).put w p = .node own (setF kids c ((kids c).put (w ++ [c]) p)) := by
  rw [BT.put, h]
theorem BT.put_none {own : Option Int} {kids : UInt8 → BT} {w : Bytes} {p : Pr} (h : p.1[w.length]? = none) : (BT.node own kids).put w p = .node (some p.2) kids := by
  rw [BT.put, h]
theorem ok_one {w k : Bytes} {x : Int} (hb : begins k w = true) (hl : k.length ≤ 65535) : BT.Ok w [(k, x)] := ⟨rfl, fun r hr => by simp at hr; subst hr; exact hb, fun r hr => by simp at hr; subst hr; exact hl⟩
/-- what a put of a tree promises -/
def PutOk (L : Lab) (H : Heap) (t : BT) (w : Bytes) (p : Pr) (r : Value) (H' : Heap) : Prop :=
  ∃ b L', r = .tuple #[ptr b 0, .int .i64 (((t.put w p).size : Int) - t.size)] ∧ Keep (Beh L w) H H' ∧ Lab.Ext H.size L L' ∧ L'.In H' ∧ Tr L' H' (t.put w p) w b

theorem burst_put {k : Bytes} {x : Int} {kk : Value} : ∀ (t : BT) {w : Bytes} {L : Lab} {vn vw : Value} {H : Heap}, Tv L H t w vn → L.In H → t.Wf w → Bs H vw w → KL L H kk k → begins k w = true → k.length ≤ 65535 → (t.put w (k, x)).size ≤ 1000000000000 →
    Ret Try.prog 50 [vn, vw, .agg [kk, .int .u64 x].toArray] H (fun r H' => PutOk L H t w (k, x) r H') := by
  intro t
  induction t with
  | nil =>
    intro w L vn vw H hT hL hW hV hK hb hl hsz
    rcases hT with ⟨_, rfl⟩ | ⟨b, _, h⟩
    · have hwl := BT.beg_len hb
      refine ret_of Try.func50 rfl rfl rfl rfl ?_
      intro w0
      repeat (first | refine za ?_ | refine zb ?_ | refine zd ?_ | refine zg ?_ | refine zj ?_ | refine zl ?_ | refine zr ?_ | refine zs ?_ | refine zt ?_ | refine zv ?_ | refine zw ?_ | refine zx ?_ | refine zy ?_ | refine zz ?_ | refine zza ?_ | refine zzb ?_ | refine zzc ?_ | refine zzd ?_ | refine zzf ?_ | refine zzg ?_)
      refine x_box rfl rfl rfl trivial ?_
      intro H1 hn1
      refine ⟨trivial, ?_⟩
      repeat (first | refine za ?_ | refine zb ?_ | refine zd ?_ | refine zg ?_ | refine zj ?_ | refine zl ?_ | refine zr ?_ | refine zs ?_ | refine zt ?_ | refine zv ?_ | refine zw ?_ | refine zx ?_ | refine zy ?_ | refine zz ?_ | refine zza ?_ | refine zzb ?_ | refine zzc ?_ | refine zzd ?_ | refine zzf ?_ | refine zzg ?_)
      refine x_loads (cs := [kk, .int .u64 x]) rfl rfl rfl (hpmt (hn1.blk.cels 0 2 (by simp))) rfl trivial ?_
      refine x_buildSliceS1 (by rfl) rfl rfl (by omega) (by rfl) rfl trivial ?_
      intro H2 hn2
      refine ⟨trivial, ?_⟩
      have hk2 := hn2.old hn1.keep
      have hs1 := hn1.size
      have hs2 := hn2.size
      repeat (first | refine za ?_ | refine zb ?_ | refine zd ?_ | refine zg ?_ | refine zj ?_ | refine zl ?_ | refine zr ?_ | refine zs ?_ | refine zt ?_ | refine zv ?_ | refine zw ?_ | refine zx ?_ | refine zy ?_ | refine zz ?_ | refine zza ?_ | refine zzb ?_ | refine zzc ?_ | refine zzd ?_ | refine zzf ?_ | refine zzg ?_)
      refine x_call rfl rfl rfl trivial (burst_built (70000 - w.length) (L := L) (B := H.size) (q := [(kk, x)]) (ps := [(k, x)]) (by omega) (ok_one hb hl) (hV.keepN hk2) (Own.new hn2 rfl (by omega)) (Pk.one (p := (k, x)) (hK.keepN hk2)) (hL.mono (by omega)) (fun _ => ⟨hL.off (show _ ≤ H1.size by omega), show _ ≤ H1.size by omega⟩) (by omega) (by simp)) ?_
      rintro _ H3 ⟨hk3, b, L', rfl, hb3, hE3, hI3, hT3⟩
      refine ⟨trivial, ?_⟩
      repeat (first | refine za ?_ | refine zb ?_ | refine zd ?_ | refine zg ?_ | refine zj ?_ | refine zl ?_ | refine zr ?_ | refine zs ?_ | refine zt ?_ | refine zv ?_ | refine zw ?_ | refine zx ?_ | refine zy ?_ | refine zz ?_ | refine zza ?_ | refine zzb ?_ | refine zzc ?_ | refine zzd ?_ | refine zzf ?_ | refine zzg ?_)
      rw [BT.built_few (by simp)] at hT3
      exact cw_ret2 rfl rfl rfl ⟨b, L', rfl, (hk2.non_trans hk3).mono (fun _ _ h => h.elim), hE3, hI3, hT3⟩
    · exact h.elim
  | shelf ps =>
    intro w L vn vw H hT hL hW hV hK hb hl hsz
    rcases hT with ⟨h, _⟩ | ⟨b, rfl, hT⟩
    · cases h
    have hwl := BT.beg_len hb
    have hr := hW.1.rise
    have h8 := hW.2.2
    have hle := rank_le ps k
    refine ret_of Try.func50 rfl rfl rfl rfl ?_
    intro w0
    repeat (first | refine za ?_ | refine zb ?_ | refine zd ?_ | refine zg ?_ | refine zj ?_ | refine zl ?_ | refine zr ?_ | refine zs ?_ | refine zt ?_ | refine zv ?_ | refine zw ?_ | refine zx ?_ | refine zy ?_ | refine zz ?_ | refine zza ?_ | refine zzb ?_ | refine zzc ?_ | refine zzd ?_ | refine zzf ?_ | refine zzg ?_)
    refine x_box rfl rfl rfl trivial ?_
    intro H1 hn1
    refine ⟨trivial, ?_⟩
    have hk1 := hn1.keep
    have hs1 := hn1.size
    have hT1 := hT.keepN hk1
    obtain ⟨h0, vk, vp, q, h1, h2, h3, h4, h5⟩ := id hT1
    have p0 : cel H1 H.size 0 = some kk := by rw [hn1.blk.cel]; rfl
    have p1 : cel H1 H.size 1 = some (.int .u64 x) := by rw [hn1.blk.cel]; rfl
    have c0 : cel H1 b 0 = some vk := by rw [h1.cel]; rfl
    have c1 : cel H1 b 1 = some vp := by rw [h1.cel]; rfl
    have c4 : cel H1 b 4 = some (.map none) := by rw [h1.cel]; rfl
    have sP := h3.sl
    have cP := sP.cap
    have hql := h5.len
    repeat (first | refine za ?_ | refine zb ?_ | refine zd ?_ | refine zg ?_ | refine zj ?_ | refine zl ?_ | refine zr ?_ | refine zs ?_ | refine zt ?_ | refine zv ?_ | refine zw ?_ | refine zx ?_ | refine zy ?_ | refine zz ?_ | refine zza ?_ | refine zzb ?_ | refine zzc ?_ | refine zzd ?_ | refine zzf ?_ | refine zzg ?_)
    refine x_load rfl rfl (hpmt (c4)) rfl trivial ?_
    repeat (first | refine za ?_ | refine zb ?_ | refine zd ?_ | refine zg ?_ | refine zj ?_ | refine zl ?_ | refine zr ?_ | refine zs ?_ | refine zt ?_ | refine zv ?_ | refine zw ?_ | refine zx ?_ | refine zy ?_ | refine zz ?_ | refine zza ?_ | refine zzb ?_ | refine zzc ?_ | refine zzd ?_ | refine zzf ?_ | refine zzg ?_)
    refine x_meqn rfl rfl rfl rfl trivial ?_
    repeat (first | refine za ?_ | refine zb ?_ | refine zd ?_ | refine zg ?_ | refine zj ?_ | refine zl ?_ | refine zr ?_ | refine zs ?_ | refine zt ?_ | refine zv ?_ | refine zw ?_ | refine zx ?_ | refine zy ?_ | refine zz ?_ | refine zza ?_ | refine zzb ?_ | refine zzc ?_ | refine zzd ?_ | refine zzf ?_ | refine zzg ?_)
    refine x_load rfl rfl (hpmt (p0)) rfl trivial ?_
    repeat (first | refine za ?_ | refine zb ?_ | refine zd ?_ | refine zg ?_ | refine zj ?_ | refine zl ?_ | refine zr ?_ | refine zs ?_ | refine zt ?_ | refine zv ?_ | refine zw ?_ | refine zx ?_ | refine zy ?_ | refine zz ?_ | refine zza ?_ | refine zzb ?_ | refine zzc ?_ | refine zzd ?_ | refine zzf ?_ | refine zzg ?_)
    refine x_call rfl rfl rfl trivial (burst_at hT1 hr (by omega) (hK.1.keepN hk1)) ?_
    rintro _ H2 ⟨hk2, rfl⟩
    refine ⟨trivial, ?_⟩
    have hk02 := hk1.non_trans hk2
    have hs2 := hk2.size
    have hkr := Keep.refl Non H2
    rcases hth : there ps k with _ | _
    · repeat (first | refine za ?_ | refine zb ?_ | refine zd ?_ | refine zg ?_ | refine zj ?_ | refine zl ?_ | refine zr ?_ | refine zs ?_ | refine zt ?_ | refine zv ?_ | refine zw ?_ | refine zx ?_ | refine zy ?_ | refine zz ?_ | refine zza ?_ | refine zzb ?_ | refine zzc ?_ | refine zzd ?_ | refine zzf ?_ | refine zzg ?_)
      refine cw_held (fun _ => Keep Non H2) ⟨[8, 11, 12, 13], [(3, 0), (7, 0), (10, 0)]⟩ (.op 0 (.op 1 (.op 2 (.op 3 (.op 4 (.op 5 (.op 6 (.op 7 (.op 9 (.op 10 (.alt (.op 8 (.op 11 (.op 12 (.op 13 (.op 14 (.nil)))))) (.op 11 (.op 8 (.op 12 (.op 13 (.op 14 (.nil))))))))))))))))) panicOk_body mixed (by kernel_rfl) ?_
      repeat (first | refine za ?_ | refine zb ?_ | refine zd ?_ | refine zj ?_ | refine zl ?_ | refine zr ?_ | refine zs ?_ | refine zt ?_ | refine zv ?_ | refine zw ?_ | refine zx ?_ | refine zy ?_ | refine zz ?_ | refine zza ?_ | refine zzb ?_ | refine zzc ?_ | refine zzd ?_ | refine zzf ?_ | refine zzg ?_)
      refine x_load rfl rfl (hpmk rfl (fun _ hk => hk.cel (hk2.cel c0 (fun h => h)) (fun h => h))) rfl (okq_load rfl rfl (by assumption)) ?_
      repeat (first | refine za ?_ | refine zb ?_ | refine zd ?_ | refine zj ?_ | refine zl ?_ | refine zr ?_ | refine zs ?_ | refine zt ?_ | refine zv ?_ | refine zw ?_ | refine zx ?_ | refine zy ?_ | refine zz ?_ | refine zza ?_ | refine zzb ?_ | refine zzc ?_ | refine zzd ?_ | refine zzf ?_ | refine zzg ?_)
      refine x_load rfl rfl (hpmk rfl (fun _ hk => hk.cel (hk2.cel c1 (fun h => h)) (fun h => h))) rfl (okq_load rfl rfl (by assumption)) ?_
      repeat (first | refine za ?_ | refine zb ?_ | refine zd ?_ | refine zj ?_ | refine zl ?_ | refine zr ?_ | refine zs ?_ | refine zt ?_ | refine zv ?_ | refine zw ?_ | refine zx ?_ | refine zy ?_ | refine zz ?_ | refine zza ?_ | refine zzb ?_ | refine zzc ?_ | refine zzd ?_ | refine zzf ?_ | refine zzg ?_)
      refine x_loads (cs := [kk, .int .u64 x]) rfl rfl rfl (hpmk rfl (fun _ hk => ((hn1.blk.cels 0 2 (by simp)).keep hk2 (fun _ h => h)).keep hk (fun _ h => h))) rfl (okq_load rfl rfl (by assumption)) ?_
      have hput : (BT.shelf ps).put w (k, x) = BT.built w (putM ps k x) := by unfold BT.put; exact if_neg (by rw [hth]; simp)
      rw [hput] at hsz
      repeat (first | refine za ?_ | refine zb ?_ | refine zd ?_ | refine zj ?_ | refine zl ?_ | refine zr ?_ | refine zs ?_ | refine zt ?_ | refine zv ?_ | refine zw ?_ | refine zx ?_ | refine zy ?_ | refine zz ?_ | refine zza ?_ | refine zzb ?_ | refine zzc ?_ | refine zzd ?_ | refine zzf ?_ | refine zzg ?_)
      refine x_alt ?_ ?_
      · refine x_call rfl rfl rfl ⟨rfl, rfl⟩ (slices_CloneP sP hql (h3.cels.keep hk2 (fun _ h => h)) (pcs_oneC h5 fun v b h => isSl_oneC h.1.sl) (by omega)) ?_
        rintro cp H3 ⟨hk3, hcp, hfcp⟩
        refine ⟨okm_keep hk3 (fun _ _ h => h), ?_⟩
        refine x_buildSliceS1 (by rfl) rfl rfl (by omega) (by rfl) rfl ⟨rfl, rfl⟩ ?_
        intro H4 hn4
        refine ⟨okm_keep hn4.keep (fun _ _ h => h.elim), ?_⟩
        have hcp4 : Own 2 H4 cp ps.length (pcs q) := hcp.keep hn4.keep (fun _ h => h)
        have hk4 : Keep Non H2 H4 := hn4.old hk3
        have hraw : ∃ T, H4[H3.size]? = some (.cells [kk, .int .u64 x].toArray T (0, 0)) := hn4.raw
        have hane : 0 < sc cp → H3.size ≠ sb cp := fun hc => by have := hcp.lt hc; omega
        have hs4 := hk4.size
        rw [← hql] at hcp4
        refine x_call rfl rfl rfl ⟨rfl, rfl⟩ (slices_Insert (kk := kk) (x := x) (i := rank ps k) hcp4 (by omega) (by omega) (pcs_oneC h5 fun v b h => isSl_oneC h.1.sl) (isSl_oneC hK.1.sl) hraw hane) ?_
        rintro row H5 ⟨hrow, hk5, hpl⟩
        refine ⟨okm_keep hk5 (fun y hy e => by have := hfcp e.2; have := e.1; omega), ?_⟩
        have hk25 : Keep Non H2 H5 := hk4.old hk5 (fun y hy e => by have := hfcp e.2; have := e.1; omega)
        have hk05 := hk02.non_trans hk25
        have hs5 := hk5.size
        have hplc : 0 < sc row → H.size ≤ sb row := fun hc => by
          rcases hpl with ⟨e1, e2⟩ | e1
          · have := hfcp e2; omega
          · omega
        have hPk : Pk (KL L H5) (q.take (rank ps k) ++ (kk, x) :: q.drop (rank ps k)) (putM ps k x) := by
          rw [putM_not' hth]
          have ho := h5.mono (K' := KL L H5) fun _ _ hb => (hb.keepN hk2).keepN hk25
          exact (ho.take _).append ((Pk.one (p := (k, x)) (hK.keepN hk05)).append (ho.drop _))
        have hrowl : (putM ps k x).length = q.length + 1 := by rw [putM_not' hth, List.length_append, List.length_cons, List.length_take, List.length_drop]; omega
        repeat (first | refine za ?_ | refine zb ?_ | refine zd ?_ | refine zj ?_ | refine zl ?_ | refine zr ?_ | refine zs ?_ | refine zt ?_ | refine zv ?_ | refine zw ?_ | refine zx ?_ | refine zy ?_ | refine zz ?_ | refine zza ?_ | refine zzb ?_ | refine zzc ?_ | refine zzd ?_ | refine zzf ?_ | refine zzg ?_)
        refine x_call rfl rfl rfl ⟨rfl, rfl⟩ (burst_built (70000 - w.length) (L := L) (B := H.size) (ps := putM ps k x) (by omega) (BT.Ok.put (p := (k, x)) hW.1 hb hl) (h2.1.keepN (hk2.non_trans hk25)) (by rw [hrowl]; exact hrow) hPk (hL.mono (by omega)) (fun hc => ⟨hL.off (hplc hc), hplc hc⟩) (by omega) (by omega)) ?_
        rintro _ H6 ⟨hk6, bn, L6, rfl, hbn, hE6, hI6, hT6⟩
        refine ⟨okm_keep hk6 (fun _ _ h => h), ?_⟩
        have hk06 := hk05.non_trans hk6
        repeat (first | refine za ?_ | refine zb ?_ | refine zd ?_ | refine zj ?_ | refine zl ?_ | refine zr ?_ | refine zs ?_ | refine zt ?_ | refine zv ?_ | refine zw ?_ | refine zx ?_ | refine zy ?_ | refine zz ?_ | refine zza ?_ | refine zzb ?_ | refine zzc ?_ | refine zzd ?_ | refine zzf ?_ | refine zzg ?_)
        repeat (first | refine za ?_ | refine zb ?_ | refine zd ?_ | refine zg ?_ | refine zj ?_ | refine zl ?_ | refine zr ?_ | refine zs ?_ | refine zt ?_ | refine zv ?_ | refine zw ?_ | refine zx ?_ | refine zy ?_ | refine zz ?_ | refine zza ?_ | refine zzb ?_ | refine zzc ?_ | refine zzd ?_ | refine zzf ?_ | refine zzg ?_)
        refine x_call rfl rfl rfl trivial (burst_size (BT.built w (putM ps k x)) (.inr ⟨bn, rfl, hT6⟩) hsz) ?_
        rintro _ H7 ⟨hk7, rfl⟩
        refine ⟨trivial, ?_⟩
        repeat (first | refine za ?_ | refine zb ?_ | refine zd ?_ | refine zg ?_ | refine zj ?_ | refine zl ?_ | refine zr ?_ | refine zs ?_ | refine zt ?_ | refine zv ?_ | refine zw ?_ | refine zx ?_ | refine zy ?_ | refine zz ?_ | refine zza ?_ | refine zzb ?_ | refine zzc ?_ | refine zzd ?_ | refine zzf ?_ | refine zzg ?_)
        refine cw_ret2 rfl rfl rfl ?_
        unfold PutOk
        rw [hput]
        exact ⟨bn, L6, by simp [BT.size], (hk06.non_trans hk7).mono (fun _ _ h => h.elim), hE6, hI6.mono hk7.size, hT6.keepN hk7⟩
      · refine x_buildSliceS1 (by rfl) rfl rfl (by omega) (by rfl) rfl ⟨rfl, rfl⟩ ?_
        intro H3 hn3
        refine ⟨okm_keep hn3.keep (fun _ _ h => h.elim), ?_⟩
        refine x_call rfl rfl rfl ⟨rfl, rfl⟩ (slices_CloneP sP hql (h3.cels.keep (hn3.old hk2) (fun _ h => h)) (pcs_oneC h5 fun v b h => isSl_oneC h.1.sl) (by omega)) ?_
        rintro cp H4 ⟨hk34, hcp4, hfcp3⟩
        refine ⟨okm_keep hk34 (fun _ _ h => h), ?_⟩
        have hfcp : Fresh H2 cp := fun hc => by have := hfcp3 hc; have := hn3.size; omega
        have hk4 : Keep Non H2 H4 := hn3.keep.non_trans hk34
        have hraw : ∃ T, H4[H2.size]? = some (.cells [kk, .int .u64 x].toArray T (0, 0)) := let ⟨T, h⟩ := hn3.raw; ⟨T, hk34.get h (fun h => h)⟩
        have hane : 0 < sc cp → H2.size ≠ sb cp := fun hc => by have := hfcp3 hc; have := hn3.size; omega
        have hs4 := hk4.size
        rw [← hql] at hcp4
        refine x_call rfl rfl rfl ⟨rfl, rfl⟩ (slices_Insert (kk := kk) (x := x) (i := rank ps k) hcp4 (by omega) (by omega) (pcs_oneC h5 fun v b h => isSl_oneC h.1.sl) (isSl_oneC hK.1.sl) hraw hane) ?_
        rintro row H5 ⟨hrow, hk5, hpl⟩
        refine ⟨okm_keep hk5 (fun y hy e => by have := hfcp e.2; have := e.1; omega), ?_⟩
        have hk25 : Keep Non H2 H5 := hk4.old hk5 (fun y hy e => by have := hfcp e.2; have := e.1; omega)
        have hk05 := hk02.non_trans hk25
        have hs5 := hk5.size
        have hplc : 0 < sc row → H.size ≤ sb row := fun hc => by
          rcases hpl with ⟨e1, e2⟩ | e1
          · have := hfcp e2; omega
          · omega
        have hPk : Pk (KL L H5) (q.take (rank ps k) ++ (kk, x) :: q.drop (rank ps k)) (putM ps k x) := by
          rw [putM_not' hth]
          have ho := h5.mono (K' := KL L H5) fun _ _ hb => (hb.keepN hk2).keepN hk25
          exact (ho.take _).append ((Pk.one (p := (k, x)) (hK.keepN hk05)).append (ho.drop _))
        have hrowl : (putM ps k x).length = q.length + 1 := by rw [putM_not' hth, List.length_append, List.length_cons, List.length_take, List.length_drop]; omega
        repeat (first | refine za ?_ | refine zb ?_ | refine zd ?_ | refine zj ?_ | refine zl ?_ | refine zr ?_ | refine zs ?_ | refine zt ?_ | refine zv ?_ | refine zw ?_ | refine zx ?_ | refine zy ?_ | refine zz ?_ | refine zza ?_ | refine zzb ?_ | refine zzc ?_ | refine zzd ?_ | refine zzf ?_ | refine zzg ?_)
        refine x_call rfl rfl rfl ⟨rfl, rfl⟩ (burst_built (70000 - w.length) (L := L) (B := H.size) (ps := putM ps k x) (by omega) (BT.Ok.put (p := (k, x)) hW.1 hb hl) (h2.1.keepN (hk2.non_trans hk25)) (by rw [hrowl]; exact hrow) hPk (hL.mono (by omega)) (fun hc => ⟨hL.off (hplc hc), hplc hc⟩) (by omega) (by omega)) ?_
        rintro _ H6 ⟨hk6, bn, L6, rfl, hbn, hE6, hI6, hT6⟩
        refine ⟨okm_keep hk6 (fun _ _ h => h), ?_⟩
        have hk06 := hk05.non_trans hk6
        repeat (first | refine za ?_ | refine zb ?_ | refine zd ?_ | refine zj ?_ | refine zl ?_ | refine zr ?_ | refine zs ?_ | refine zt ?_ | refine zv ?_ | refine zw ?_ | refine zx ?_ | refine zy ?_ | refine zz ?_ | refine zza ?_ | refine zzb ?_ | refine zzc ?_ | refine zzd ?_ | refine zzf ?_ | refine zzg ?_)
        repeat (first | refine za ?_ | refine zb ?_ | refine zd ?_ | refine zg ?_ | refine zj ?_ | refine zl ?_ | refine zr ?_ | refine zs ?_ | refine zt ?_ | refine zv ?_ | refine zw ?_ | refine zx ?_ | refine zy ?_ | refine zz ?_ | refine zza ?_ | refine zzb ?_ | refine zzc ?_ | refine zzd ?_ | refine zzf ?_ | refine zzg ?_)
        refine x_call rfl rfl rfl trivial (burst_size (BT.built w (putM ps k x)) (.inr ⟨bn, rfl, hT6⟩) hsz) ?_
        rintro _ H7 ⟨hk7, rfl⟩
        refine ⟨trivial, ?_⟩
        repeat (first | refine za ?_ | refine zb ?_ | refine zd ?_ | refine zg ?_ | refine zj ?_ | refine zl ?_ | refine zr ?_ | refine zs ?_ | refine zt ?_ | refine zv ?_ | refine zw ?_ | refine zx ?_ | refine zy ?_ | refine zz ?_ | refine zza ?_ | refine zzb ?_ | refine zzc ?_ | refine zzd ?_ | refine zzf ?_ | refine zzg ?_)
        refine cw_ret2 rfl rfl rfl ?_
        unfold PutOk
        rw [hput]
        exact ⟨bn, L6, by simp [BT.size], (hk06.non_trans hk7).mono (fun _ _ h => h.elim), hE6, hI6.mono hk7.size, hT6.keepN hk7⟩
    · obtain ⟨p, g1, g2, g3⟩ := getM_there.2 hth
      have hlt := (List.getElem?_eq_some_iff.1 g1).1
      obtain ⟨ko, hqk, hko⟩ := h5.get g1
      have hpos : 0 < sc vp := by omega
      have h3' := h3.keep hk2 (fun _ h => h)
      obtain ⟨z, hz1, hz2, hz3⟩ := h3'.store (rank ps k * 2 + 1) (by rw [pcs_length]; omega)
      have hput : (BT.shelf ps).put w (k, x) = .shelf (putM ps k x) := by unfold BT.put; exact if_pos hth
      repeat (first | refine za ?_ | refine zb ?_ | refine zd ?_ | refine zg ?_ | refine zj ?_ | refine zl ?_ | refine zr ?_ | refine zs ?_ | refine zt ?_ | refine zv ?_ | refine zw ?_ | refine zx ?_ | refine zy ?_ | refine zz ?_ | refine zza ?_ | refine zzb ?_ | refine zzc ?_ | refine zzd ?_ | refine zzf ?_ | refine zzg ?_)
      refine cw_held (fun _ => Keep Non H2) ⟨[9], [(3, 0), (6, 0)]⟩ (.op 0 (.op 1 (.op 2 (.op 3 (.op 4 (.op 5 (.op 6 (.op 7 (.op 8 (.op 9 (.nil))))))))))) panicOk_body mixed (by kernel_rfl) ?_
      repeat (first | refine za ?_ | refine zb ?_ | refine zd ?_ | refine zj ?_ | refine zl ?_ | refine zr ?_ | refine zs ?_ | refine zt ?_ | refine zv ?_ | refine zw ?_ | refine zx ?_ | refine zy ?_ | refine zz ?_ | refine zza ?_ | refine zzb ?_ | refine zzc ?_ | refine zzd ?_ | refine zzf ?_ | refine zzg ?_)
      refine x_load rfl rfl (hpmk rfl (fun _ hk => hk.cel (hk2.cel c1 (fun h => h)) (fun h => h))) rfl (okq_load rfl rfl (by assumption)) ?_
      repeat (first | refine za ?_ | refine zb ?_ | refine zd ?_ | refine zj ?_ | refine zl ?_ | refine zr ?_ | refine zs ?_ | refine zt ?_ | refine zv ?_ | refine zw ?_ | refine zx ?_ | refine zy ?_ | refine zz ?_ | refine zza ?_ | refine zzb ?_ | refine zzc ?_ | refine zzd ?_ | refine zzf ?_ | refine zzg ?_)
      refine x_load rfl rfl (hpmk rfl (fun _ hk => hk.cel (hk2.cel p1 (fun h => h)) (fun h => h))) rfl (okq_load rfl rfl (by assumption)) ?_
      repeat (first | refine za ?_ | refine zb ?_ | refine zd ?_ | refine zj ?_ | refine zl ?_ | refine zr ?_ | refine zs ?_ | refine zt ?_ | refine zv ?_ | refine zw ?_ | refine zx ?_ | refine zy ?_ | refine zz ?_ | refine zza ?_ | refine zzb ?_ | refine zzc ?_ | refine zzd ?_ | refine zzf ?_ | refine zzg ?_)
      refine x_store rfl rfl rfl rfl hz1 (by show so vp + rank ps k * 2 + 1 < _; omega) ⟨rfl, rfl⟩ ?_
      intro H3 hB3 hk3 hs3
      refine ⟨okm_free (fun c => by cases c <;> kernel_rfl), ?_⟩
      repeat (first | refine za ?_ | refine zb ?_ | refine zd ?_ | refine zj ?_ | refine zl ?_ | refine zr ?_ | refine zs ?_ | refine zt ?_ | refine zv ?_ | refine zw ?_ | refine zx ?_ | refine zy ?_ | refine zz ?_ | refine zza ?_ | refine zzb ?_ | refine zzc ?_ | refine zzd ?_ | refine zzf ?_ | refine zzg ?_)
      repeat (first | refine za ?_ | refine zb ?_ | refine zd ?_ | refine zg ?_ | refine zj ?_ | refine zl ?_ | refine zr ?_ | refine zs ?_ | refine zt ?_ | refine zv ?_ | refine zw ?_ | refine zx ?_ | refine zy ?_ | refine zz ?_ | refine zza ?_ | refine zzb ?_ | refine zzc ?_ | refine zzd ?_ | refine zzf ?_ | refine zzg ?_)
      have hO3 := hz3 H3 (.int .u64 x) hB3
      rw [pcs_set1 hqk] at hO3
      have hv := h4 hpos
      have hkey : ∀ y, L y = some (0, []) → ¬ y = sb vp := fun y hy e => by rw [e, hv] at hy; simp at hy
      refine cw_ret2 rfl rfl rfl ?_
      unfold PutOk
      rw [hput]
      refine ⟨b, L, by simp [BT.size], (hk02.mono (S' := Beh L w) (fun _ _ h => h.elim)).step hk3 (fun y _ e => by rw [e]; exact ⟨1, w, hv, List.prefix_rfl⟩), Lab.Ext.refl _ _, hL.mono (by omega), h0, vk, vp, q.set (rank ps k) (ko, x), (h1.keep hk2 (fun h => h)).keep hk3 (fun e => by rw [e, hv] at h0; simp at h0), (h2.keepN hk2).keep hk3 hkey, ?_, h4, ?_⟩
      · rw [putM_there' hth, List.length_set]
        exact hO3
      · rw [putM_there' hth]
        refine Pk.set (y := (ko, x)) (p := (k, x)) (h5.mono fun u c' hb => (hb.keepN hk2).keep hk3 hkey) ?_ rfl
        rw [← g2]
        exact (hko.keepN hk2).keep hk3 hkey
  | node own kids ih =>
    intro w L vn vw H hT hL hW hV hK hb hl hsz
    rcases hT with ⟨h, _⟩ | ⟨b, rfl, hT⟩
    · cases h
    have hwl := BT.beg_len hb
    have hw5 := hW.1
    obtain ⟨vk, m, f, hN⟩ := hT.nd
    refine ret_of Try.func50 rfl rfl rfl rfl ?_
    intro w0
    repeat (first | refine za ?_ | refine zb ?_ | refine zd ?_ | refine zg ?_ | refine zj ?_ | refine zl ?_ | refine zr ?_ | refine zs ?_ | refine zt ?_ | refine zv ?_ | refine zw ?_ | refine zx ?_ | refine zy ?_ | refine zz ?_ | refine zza ?_ | refine zzb ?_ | refine zzc ?_ | refine zzd ?_ | refine zzf ?_ | refine zzg ?_)
    refine x_box rfl rfl rfl trivial ?_
    intro H1 hn1
    refine ⟨trivial, ?_⟩
    have hk1 := hn1.keep
    have hs1 := hn1.size
    have p0 : cel H1 H.size 0 = some kk := by rw [hn1.blk.cel]; rfl
    have p1 : cel H1 H.size 1 = some (.int .u64 x) := by rw [hn1.blk.cel]; rfl
    have pp : Cels H1 H.size 0 [kk, .int .u64 x] := hn1.blk.cels 0 2 (by simp)
    have hN1 := hN.keepN hk1
    have h1 := hN1.blk
    have c0 : cel H1 b 0 = some vk := by rw [h1.cel]; rfl
    have c4 : cel H b 4 = some (.map (some m)) := by rw [hN.blk.cel]; rfl
    have c4a := hk1.cel c4 (fun h => h)
    have sK := hK.1.sl
    have sW := hN.key.1.sl
    have hkr := Keep.refl Non H1
    repeat (first | refine za ?_ | refine zb ?_ | refine zd ?_ | refine zg ?_ | refine zj ?_ | refine zl ?_ | refine zr ?_ | refine zs ?_ | refine zt ?_ | refine zv ?_ | refine zw ?_ | refine zx ?_ | refine zy ?_ | refine zz ?_ | refine zza ?_ | refine zzb ?_ | refine zzc ?_ | refine zzd ?_ | refine zzf ?_ | refine zzg ?_)
    refine x_load rfl rfl (hpmt (c4a)) rfl trivial ?_
    repeat (first | refine za ?_ | refine zb ?_ | refine zd ?_ | refine zg ?_ | refine zj ?_ | refine zl ?_ | refine zr ?_ | refine zs ?_ | refine zt ?_ | refine zv ?_ | refine zw ?_ | refine zx ?_ | refine zy ?_ | refine zz ?_ | refine zza ?_ | refine zzb ?_ | refine zzc ?_ | refine zzd ?_ | refine zzf ?_ | refine zzg ?_)
    refine x_meqn rfl rfl rfl rfl trivial ?_
    repeat (first | refine za ?_ | refine zb ?_ | refine zd ?_ | refine zj ?_ | refine zl ?_ | refine zr ?_ | refine zs ?_ | refine zt ?_ | refine zv ?_ | refine zw ?_ | refine zx ?_ | refine zy ?_ | refine zz ?_ | refine zza ?_ | refine zzb ?_ | refine zzc ?_ | refine zzf ?_ | refine zzg ?_)
    refine cw_quiet mixed (by kernel_rfl) ?_
    repeat (first | refine za ?_ | refine zb ?_ | refine zd ?_ | refine zg ?_ | refine zj ?_ | refine zl ?_ | refine zr ?_ | refine zs ?_ | refine zt ?_ | refine zv ?_ | refine zw ?_ | refine zx ?_ | refine zy ?_ | refine zz ?_ | refine zza ?_ | refine zzb ?_ | refine zzc ?_ | refine zzd ?_ | refine zzf ?_ | refine zzg ?_)
    refine x_load rfl rfl (hpmt (p0)) rfl trivial ?_
    repeat (first | refine za ?_ | refine zb ?_ | refine zd ?_ | refine zg ?_ | refine zj ?_ | refine zl ?_ | refine zr ?_ | refine zs ?_ | refine zt ?_ | refine zv ?_ | refine zw ?_ | refine zx ?_ | refine zy ?_ | refine zz ?_ | refine zza ?_ | refine zzb ?_ | refine zzc ?_ | refine zzd ?_ | refine zzf ?_ | refine zzg ?_)
    refine x_load rfl rfl (hpmt (c0)) rfl trivial ?_
    repeat (first | refine za ?_ | refine zb ?_ | refine zd ?_ | refine zg ?_ | refine zj ?_ | refine zl ?_ | refine zr ?_ | refine zs ?_ | refine zt ?_ | refine zv ?_ | refine zw ?_ | refine zx ?_ | refine zy ?_ | refine zz ?_ | refine zza ?_ | refine zzb ?_ | refine zzc ?_ | refine zzd ?_ | refine zzf ?_ | refine zzg ?_)
    refine cw_cond rfl (fun hlen => ?_) (fun hlen => ?_) <;> (try simp at hlen)
    · have e : k = w := BT.beg_nil hb (List.getElem?_eq_none (by omega))
      have hc : k[w.length]? = none := List.getElem?_eq_none (by omega)
      have hput : (BT.node own kids).put w (k, x) = .node (some x) kids := BT.put_none hc
      have hbl := hN.blk.lt
      have hkb := Keep.refl (· = b) H1
      repeat (first | refine za ?_ | refine zb ?_ | refine zd ?_ | refine zj ?_ | refine zl ?_ | refine zr ?_ | refine zs ?_ | refine zt ?_ | refine zv ?_ | refine zw ?_ | refine zx ?_ | refine zy ?_ | refine zz ?_ | refine zza ?_ | refine zzb ?_ | refine zzc ?_ | refine zzf ?_ | refine zzg ?_)
      refine cw_held (fun _ => Keep (· = b) H1) ⟨[6, 9], [(3, 0)]⟩ (.op 0 (.op 1 (.op 2 (.op 3 (.op 4 (.op 5 (.op 6 (.op 7 (.op 8 (.op 9 (.nil))))))))))) panicOk_body mixed (by kernel_rfl) ?_
      repeat (first | refine za ?_ | refine zb ?_ | refine zd ?_ | refine zj ?_ | refine zl ?_ | refine zr ?_ | refine zs ?_ | refine zt ?_ | refine zv ?_ | refine zw ?_ | refine zx ?_ | refine zy ?_ | refine zz ?_ | refine zza ?_ | refine zzb ?_ | refine zzc ?_ | refine zzd ?_ | refine zzf ?_ | refine zzg ?_)
      refine x_load rfl rfl (hpmk rfl (fun _ hk => hk.cel p1 (by omega))) rfl (okq_load rfl rfl (by assumption)) ?_
      repeat (first | refine za ?_ | refine zb ?_ | refine zd ?_ | refine zj ?_ | refine zl ?_ | refine zr ?_ | refine zs ?_ | refine zt ?_ | refine zv ?_ | refine zw ?_ | refine zx ?_ | refine zy ?_ | refine zz ?_ | refine zza ?_ | refine zzb ?_ | refine zzc ?_ | refine zzd ?_ | refine zzf ?_ | refine zzg ?_)
      refine x_store rfl rfl rfl rfl h1 (by simp) ⟨rfl, rfl⟩ ?_
      intro H2 hB2 hk2 hs2
      refine ⟨okm_keep hk2 (fun _ _ e => e), ?_⟩
      repeat (first | refine za ?_ | refine zb ?_ | refine zd ?_ | refine zj ?_ | refine zl ?_ | refine zr ?_ | refine zs ?_ | refine zt ?_ | refine zv ?_ | refine zw ?_ | refine zx ?_ | refine zy ?_ | refine zz ?_ | refine zza ?_ | refine zzb ?_ | refine zzc ?_ | refine zzd ?_ | refine zzf ?_ | refine zzg ?_)
      refine x_store rfl rfl rfl rfl hB2 (by simp) ⟨rfl, rfl⟩ ?_
      intro H3 hB3 hk3 hs3
      refine ⟨okm_keep hk3 (fun _ _ e => e), ?_⟩
      repeat (first | refine za ?_ | refine zb ?_ | refine zd ?_ | refine zj ?_ | refine zl ?_ | refine zr ?_ | refine zs ?_ | refine zt ?_ | refine zv ?_ | refine zw ?_ | refine zx ?_ | refine zy ?_ | refine zz ?_ | refine zza ?_ | refine zzb ?_ | refine zzc ?_ | refine zzd ?_ | refine zzf ?_ | refine zzg ?_)
      repeat (first | refine za ?_ | refine zb ?_ | refine zd ?_ | refine zg ?_ | refine zj ?_ | refine zl ?_ | refine zr ?_ | refine zs ?_ | refine zt ?_ | refine zv ?_ | refine zw ?_ | refine zx ?_ | refine zy ?_ | refine zz ?_ | refine zza ?_ | refine zzb ?_ | refine zzc ?_ | refine zzd ?_ | refine zzf ?_ | refine zzg ?_)
      have hk13 : Keep (· = b) H1 H3 := hk2.step hk3 (fun _ _ e => e)
      refine cw_ret2 rfl rfl rfl ?_
      unfold PutOk
      rw [hput]
      exact ⟨b, L, by simp [BT.size], (hk1.mono (fun _ _ h => h.elim)).step hk13 (fun y _ e => by rw [e]; exact beh_self_b hN.lb), Lab.Ext.refl _ _, hL.mono (by omega), (hN1.own_ (own' := some x) hk13 hB3).tr⟩
    · obtain ⟨c, hc⟩ : ∃ c, k[w.length]? = some c := ⟨_, List.getElem?_eq_getElem (by omega)⟩
      have hput : (BT.node own kids).put w (k, x) = .node own (setF kids c ((kids c).put (w ++ [c]) (k, x))) := BT.put_some hc
      have hsum := BT.size_kid own own kids c ((kids c).put (w ++ [c]) (k, x))
      have hdiff : (((BT.node own (setF kids c ((kids c).put (w ++ [c]) (k, x)))).size : Int) - ((BT.node own kids).size : Nat)) = ((((kids c).put (w ++ [c]) (k, x)).size : Int) - ((kids c).size : Nat)) := by
        generalize (BT.node own (setF kids c ((kids c).put (w ++ [c]) (k, x)))).size = a1 at hsum ⊢
        generalize (BT.node own kids).size = a2 at hsum ⊢
        omega
      have hkc : (kids c).size < (BT.node own kids).size := by
        show _ < 1 + sumB _
        have := le_sumB (fun b => (kids b).size) c
        omega
      rw [hput] at hsz
      have hkc' := le_sumB (fun b => (setF kids c ((kids c).put (w ++ [c]) (k, x)) b).size) c
      simp only [setF_at] at hkc'
      have hsz' : 1 + sumB (fun b => (setF kids c ((kids c).put (w ++ [c]) (k, x)) b).size) ≤ 1000000000000 := hsz
      repeat (first | refine za ?_ | refine zb ?_ | refine zd ?_ | refine zj ?_ | refine zl ?_ | refine zr ?_ | refine zs ?_ | refine zt ?_ | refine zv ?_ | refine zw ?_ | refine zx ?_ | refine zy ?_ | refine zz ?_ | refine zza ?_ | refine zzb ?_ | refine zzc ?_ | refine zzf ?_ | refine zzg ?_)
      refine cw_quiet mixed (by kernel_rfl) ?_
      repeat (first | refine za ?_ | refine zb ?_ | refine zd ?_ | refine zg ?_ | refine zj ?_ | refine zl ?_ | refine zr ?_ | refine zs ?_ | refine zt ?_ | refine zv ?_ | refine zw ?_ | refine zx ?_ | refine zy ?_ | refine zz ?_ | refine zza ?_ | refine zzb ?_ | refine zzc ?_ | refine zzd ?_ | refine zzf ?_ | refine zzg ?_)
      refine x_load rfl rfl (hpmt (p0)) rfl trivial ?_
      repeat (first | refine za ?_ | refine zb ?_ | refine zd ?_ | refine zg ?_ | refine zj ?_ | refine zl ?_ | refine zr ?_ | refine zs ?_ | refine zt ?_ | refine zv ?_ | refine zw ?_ | refine zx ?_ | refine zy ?_ | refine zz ?_ | refine zza ?_ | refine zzb ?_ | refine zzc ?_ | refine zzd ?_ | refine zzf ?_ | refine zzg ?_)
      refine x_load rfl rfl (hpmt (c0)) rfl trivial ?_
      repeat (first | refine za ?_ | refine zb ?_ | refine zd ?_ | refine zg ?_ | refine zj ?_ | refine zl ?_ | refine zr ?_ | refine zs ?_ | refine zt ?_ | refine zv ?_ | refine zw ?_ | refine zx ?_ | refine zy ?_ | refine zz ?_ | refine zza ?_ | refine zzb ?_ | refine zzc ?_ | refine zzd ?_ | refine zzf ?_ | refine zzg ?_)
      refine x_load rfl rfl (hpmt ((hK.1.keepN hk1).get w.length c hc)) rfl trivial ?_
      repeat (first | refine za ?_ | refine zb ?_ | refine zd ?_ | refine zj ?_ | refine zl ?_ | refine zr ?_ | refine zs ?_ | refine zt ?_ | refine zv ?_ | refine zw ?_ | refine zx ?_ | refine zy ?_ | refine zz ?_ | refine zza ?_ | refine zzb ?_ | refine zzc ?_ | refine zzf ?_ | refine zzg ?_)
      have hkw := Keep.refl (Beh L (w ++ [c])) H1
      refine cw_held (fun _ => Keep (Beh L (w ++ [c])) H1) ⟨[10, 12, 13, 15], [(3, 0), (5, 0), (9, 0), (14, 0)]⟩ (.op 0 (.op 1 (.op 2 (.op 3 (.op 4 (.op 5 (.op 6 (.op 7 (.op 8 (.op 9 (.op 11 (.op 14 (.alt (.op 10 (.op 12 (.op 13 (.op 15 (.op 16 (.op 17 (.op 18 (.op 19 (.op 20 (.nil)))))))))) (.op 12 (.op 10 (.op 13 (.op 15 (.op 16 (.op 17 (.op 18 (.op 19 (.op 20 (.nil))))))))))))))))))))))) panicOk_body mixed (by kernel_rfl) ?_
      repeat (first | refine za ?_ | refine zb ?_ | refine zd ?_ | refine zj ?_ | refine zl ?_ | refine zr ?_ | refine zs ?_ | refine zt ?_ | refine zv ?_ | refine zw ?_ | refine zx ?_ | refine zy ?_ | refine zz ?_ | refine zza ?_ | refine zzb ?_ | refine zzc ?_ | refine zzd ?_ | refine zzf ?_ | refine zzg ?_)
      refine x_load rfl rfl (hpmk rfl (fun _ hk => hk.cel c4a (not_beh_kid hN.lb))) rfl (okq_load rfl rfl (by assumption)) ?_
      repeat (first | refine za ?_ | refine zb ?_ | refine zd ?_ | refine zj ?_ | refine zl ?_ | refine zr ?_ | refine zs ?_ | refine zt ?_ | refine zv ?_ | refine zw ?_ | refine zx ?_ | refine zy ?_ | refine zz ?_ | refine zza ?_ | refine zzb ?_ | refine zzc ?_ | refine zzd ?_ | refine zzf ?_ | refine zzg ?_)
      refine x_lookup rfl rfl rfl (hpmk rfl (fun _ hk => hN1.kd.keep hk (not_beh_kid hN.lm))) rfl (okq_load rfl rfl (by assumption)) ?_
      repeat (first | refine za ?_ | refine zb ?_ | refine zd ?_ | refine zj ?_ | refine zl ?_ | refine zr ?_ | refine zs ?_ | refine zt ?_ | refine zv ?_ | refine zw ?_ | refine zx ?_ | refine zy ?_ | refine zz ?_ | refine zza ?_ | refine zzb ?_ | refine zzc ?_ | refine zzd ?_ | refine zzf ?_ | refine zzg ?_)
      refine x_load rfl rfl (hpmk rfl (fun _ hk => hk.cel c0 (not_beh_kid hN.lb))) rfl (okq_load rfl rfl (by assumption)) ?_
      repeat (first | refine za ?_ | refine zb ?_ | refine zd ?_ | refine zj ?_ | refine zl ?_ | refine zr ?_ | refine zs ?_ | refine zt ?_ | refine zv ?_ | refine zw ?_ | refine zx ?_ | refine zy ?_ | refine zz ?_ | refine zza ?_ | refine zzb ?_ | refine zzc ?_ | refine zzd ?_ | refine zzf ?_ | refine zzg ?_)
      refine x_loads (cs := [kk, .int .u64 x]) rfl rfl rfl (hpmk rfl (fun _ hk => pp.keep hk (fun _ h => h.some (hL.off (Nat.le_refl _))))) rfl (okq_load rfl rfl (by assumption)) ?_
      repeat (first | refine za ?_ | refine zb ?_ | refine zd ?_ | refine zj ?_ | refine zl ?_ | refine zr ?_ | refine zs ?_ | refine zt ?_ | refine zv ?_ | refine zw ?_ | refine zx ?_ | refine zy ?_ | refine zz ?_ | refine zza ?_ | refine zzb ?_ | refine zzc ?_ | refine zzd ?_ | refine zzf ?_ | refine zzg ?_)
      refine x_alt ?_ ?_
      · refine x_call rfl rfl rfl ⟨rfl, rfl⟩ (slices_Clone (hN.key.1.keepN hk1) (by omega)) ?_
        rintro ck H2 ⟨hk2, hck, hfk⟩
        refine ⟨okm_keep hk2 (fun _ _ h => h.elim), ?_⟩
        refine x_buildSlice rfl rfl rfl rfl (by omega) (by simp [oneC, Value.oneCell']) rfl ⟨rfl, rfl⟩ ?_
        intro H3 hn3
        refine ⟨okm_keep hn3.keep (fun _ _ h => h.elim), ?_⟩
        have hck3 : Own 1 H3 ck w.length (bvs w) := hck.keep hn3.keep (fun _ h => h)
        have hb3 : Blk H3 H2.size [kb c] := hn3.blk
        have hk3 : Keep Non H1 H3 := hn3.old hk2
        refine x_append (by rfl) (by rfl) (by rfl) rfl rfl rfl hck3 (isSl_some (Nat.le_refl _) (by omega)) (m := 1) (cx := [kb c]) rfl (hb3.cels 0 1 (by simp)) (by simp [oneC, Value.oneCell']) (by omega) rfl ⟨rfl, rfl⟩ ?_
        intro vw' H4 hap
        have hk4 : Keep Non H1 H4 := hap.old hfk hk3
        refine ⟨okm_keep hap.keep (fun b hb e => by exfalso; have := hfk (by omega); have := e.1; omega), ?_⟩
        have hW4 : Bs H4 vw' (w ++ [c]) := by
          have h1 : Own 1 H4 vw' (w ++ [c]).length (bvs (w ++ [c])) := by rw [bvs_append, List.length_append]; exact hap.own
          exact h1.bs
        have hk04 := hk1.non_trans hk4
        have hs04 := hk04.size
        repeat (first | refine za ?_ | refine zb ?_ | refine zd ?_ | refine zj ?_ | refine zl ?_ | refine zr ?_ | refine zs ?_ | refine zt ?_ | refine zv ?_ | refine zw ?_ | refine zx ?_ | refine zy ?_ | refine zz ?_ | refine zza ?_ | refine zzb ?_ | refine zzc ?_ | refine zzd ?_ | refine zzf ?_ | refine zzg ?_)
        refine x_call rfl rfl rfl ⟨rfl, rfl⟩ (ih c ((Tv.kid hN.kids c).keepN hk04) (hL.mono (by omega)) (hW.2.1 c) hW4 (hK.keepN hk04) ((BT.beg_step hb).1 hc) hl (by omega)) ?_
        rintro _ H5 ⟨bn, L5, rfl, hk5, hE5, hI5, hT5⟩
        refine ⟨okm_keep hk5 (fun _ _ h => h), ?_⟩
        have hk05 : Keep (Beh L (w ++ [c])) H H5 := (hk04.mono (fun _ _ h => h.elim)).step hk5 (fun _ _ h => h)
        have hE05 := hE5.mono hs04
        repeat (first | refine za ?_ | refine zb ?_ | refine zd ?_ | refine zj ?_ | refine zl ?_ | refine zr ?_ | refine zs ?_ | refine zt ?_ | refine zv ?_ | refine zw ?_ | refine zx ?_ | refine zy ?_ | refine zz ?_ | refine zza ?_ | refine zzb ?_ | refine zzc ?_ | refine zzd ?_ | refine zzf ?_ | refine zzg ?_)
        repeat (first | refine za ?_ | refine zb ?_ | refine zd ?_ | refine zg ?_ | refine zj ?_ | refine zl ?_ | refine zr ?_ | refine zs ?_ | refine zt ?_ | refine zv ?_ | refine zw ?_ | refine zx ?_ | refine zy ?_ | refine zz ?_ | refine zza ?_ | refine zzb ?_ | refine zzc ?_ | refine zzd ?_ | refine zzf ?_ | refine zzg ?_)
        have c4' : cel H5 b 4 = some (.map (some m)) := hk05.cel c4 (not_beh_kid hN.lb)
        refine x_load rfl rfl (hpmt (c4')) rfl trivial ?_
        repeat (first | refine za ?_ | refine zb ?_ | refine zd ?_ | refine zg ?_ | refine zj ?_ | refine zl ?_ | refine zr ?_ | refine zs ?_ | refine zt ?_ | refine zv ?_ | refine zw ?_ | refine zx ?_ | refine zy ?_ | refine zz ?_ | refine zza ?_ | refine zzb ?_ | refine zzc ?_ | refine zzd ?_ | refine zzf ?_ | refine zzg ?_)
        refine x_mapUpdate rfl rfl rfl rfl (hN.kd.keep hk05 (not_beh_kid hN.lm)) trivial ?_
        intro H6 hM6 hk6 hs6
        refine ⟨trivial, ?_⟩
        repeat (first | refine za ?_ | refine zb ?_ | refine zd ?_ | refine zg ?_ | refine zj ?_ | refine zl ?_ | refine zr ?_ | refine zs ?_ | refine zt ?_ | refine zv ?_ | refine zw ?_ | refine zx ?_ | refine zy ?_ | refine zz ?_ | refine zza ?_ | refine zzb ?_ | refine zzc ?_ | refine zzd ?_ | refine zzf ?_ | refine zzg ?_)
        obtain ⟨hN6, hk06⟩ := hN.kid hk05 hE05 hL hT5 hk6 hM6
        refine cw_ret2 rfl rfl rfl ?_
        unfold PutOk
        rw [hput]
        refine ⟨b, L5, ?_, hk06, hE05, hI5.mono (by omega), hN6.tr⟩
        rw [hdiff]
        rfl
      · refine x_buildSlice rfl rfl rfl rfl (by omega) (by simp [oneC, Value.oneCell']) rfl ⟨rfl, rfl⟩ ?_
        intro H2 hn2
        refine ⟨okm_keep hn2.keep (fun _ _ h => h.elim), ?_⟩
        refine x_call rfl rfl rfl ⟨rfl, rfl⟩ (slices_Clone ((hN.key.1.keepN hk1).keepN hn2.keep) (by omega)) ?_
        rintro ck H3 ⟨hk23, hck3, hfk2⟩
        refine ⟨okm_keep hk23 (fun _ _ h => h.elim), ?_⟩
        have hb3 : Blk H3 H1.size [kb c] := hn2.blk.keep hk23 (fun h => h)
        have hk3 : Keep Non H1 H3 := hn2.keep.non_trans hk23
        have hfk : Fresh H1 ck := fun hc => by have := hfk2 hc; have := hn2.size; omega
        refine x_append (by rfl) (by rfl) (by rfl) rfl rfl rfl hck3 (isSl_some (Nat.le_refl _) (by omega)) (m := 1) (cx := [kb c]) rfl (hb3.cels 0 1 (by simp)) (by simp [oneC, Value.oneCell']) (by omega) rfl ⟨rfl, rfl⟩ ?_
        intro vw' H4 hap
        have hk4 : Keep Non H1 H4 := hap.old hfk hk3
        refine ⟨okm_keep hap.keep (fun b hb e => by exfalso; have := hfk (by omega); have := e.1; omega), ?_⟩
        have hW4 : Bs H4 vw' (w ++ [c]) := by
          have h1 : Own 1 H4 vw' (w ++ [c]).length (bvs (w ++ [c])) := by rw [bvs_append, List.length_append]; exact hap.own
          exact h1.bs
        have hk04 := hk1.non_trans hk4
        have hs04 := hk04.size
        repeat (first | refine za ?_ | refine zb ?_ | refine zd ?_ | refine zj ?_ | refine zl ?_ | refine zr ?_ | refine zs ?_ | refine zt ?_ | refine zv ?_ | refine zw ?_ | refine zx ?_ | refine zy ?_ | refine zz ?_ | refine zza ?_ | refine zzb ?_ | refine zzc ?_ | refine zzd ?_ | refine zzf ?_ | refine zzg ?_)
        refine x_call rfl rfl rfl ⟨rfl, rfl⟩ (ih c ((Tv.kid hN.kids c).keepN hk04) (hL.mono (by omega)) (hW.2.1 c) hW4 (hK.keepN hk04) ((BT.beg_step hb).1 hc) hl (by omega)) ?_
        rintro _ H5 ⟨bn, L5, rfl, hk5, hE5, hI5, hT5⟩
        refine ⟨okm_keep hk5 (fun _ _ h => h), ?_⟩
        have hk05 : Keep (Beh L (w ++ [c])) H H5 := (hk04.mono (fun _ _ h => h.elim)).step hk5 (fun _ _ h => h)
        have hE05 := hE5.mono hs04
        repeat (first | refine za ?_ | refine zb ?_ | refine zd ?_ | refine zj ?_ | refine zl ?_ | refine zr ?_ | refine zs ?_ | refine zt ?_ | refine zv ?_ | refine zw ?_ | refine zx ?_ | refine zy ?_ | refine zz ?_ | refine zza ?_ | refine zzb ?_ | refine zzc ?_ | refine zzd ?_ | refine zzf ?_ | refine zzg ?_)
        repeat (first | refine za ?_ | refine zb ?_ | refine zd ?_ | refine zg ?_ | refine zj ?_ | refine zl ?_ | refine zr ?_ | refine zs ?_ | refine zt ?_ | refine zv ?_ | refine zw ?_ | refine zx ?_ | refine zy ?_ | refine zz ?_ | refine zza ?_ | refine zzb ?_ | refine zzc ?_ | refine zzd ?_ | refine zzf ?_ | refine zzg ?_)
        have c4' : cel H5 b 4 = some (.map (some m)) := hk05.cel c4 (not_beh_kid hN.lb)
        refine x_load rfl rfl (hpmt (c4')) rfl trivial ?_
        repeat (first | refine za ?_ | refine zb ?_ | refine zd ?_ | refine zg ?_ | refine zj ?_ | refine zl ?_ | refine zr ?_ | refine zs ?_ | refine zt ?_ | refine zv ?_ | refine zw ?_ | refine zx ?_ | refine zy ?_ | refine zz ?_ | refine zza ?_ | refine zzb ?_ | refine zzc ?_ | refine zzd ?_ | refine zzf ?_ | refine zzg ?_)
        refine x_mapUpdate rfl rfl rfl rfl (hN.kd.keep hk05 (not_beh_kid hN.lm)) trivial ?_
        intro H6 hM6 hk6 hs6
        refine ⟨trivial, ?_⟩
        repeat (first | refine za ?_ | refine zb ?_ | refine zd ?_ | refine zg ?_ | refine zj ?_ | refine zl ?_ | refine zr ?_ | refine zs ?_ | refine zt ?_ | refine zv ?_ | refine zw ?_ | refine zx ?_ | refine zy ?_ | refine zz ?_ | refine zza ?_ | refine zzb ?_ | refine zzc ?_ | refine zzd ?_ | refine zzf ?_ | refine zzg ?_)
        obtain ⟨hN6, hk06⟩ := hN.kid hk05 hE05 hL hT5 hk6 hM6
        refine cw_ret2 rfl rfl rfl ?_
        unfold PutOk
        rw [hput]
        refine ⟨b, L5, ?_, hk06, hE05, hI5.mono (by omega), hN6.tr⟩
        rw [hdiff]
        rfl
end Go.Proofs.Ytaloblomncjgkaa.X
