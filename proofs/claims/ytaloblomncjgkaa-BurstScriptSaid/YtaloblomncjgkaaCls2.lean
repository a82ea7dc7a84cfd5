/- The package burst: a node's cells. -/
import Derived.Test.YtaloblomncjgkaaCls
namespace Go.Proofs.Ytaloblomncjgkaa.X
open Go Go.Proofs
set_option linter.unusedVariables false
set_option linter.unusedSimpArgs false
set_option maxRecDepth 10000
set_option maxHeartbeats 2000000

theorem burst_cells : ∀ (t : BT) {L : Lab} {w : Bytes} {b : Nat} {H : Heap}, Tr L H t w b → t.Wf w → t.count ≤ 5000 → t.size ≤ 1000000 → Ret Try.prog 60 [ptr b 0] H (fun v H' => Keep Non H H' ∧ ∃ W, Cls H.size H' W v (t.cells w)) := by
  intro t0
  induction t0 with
  | nil => intro L w b H hT; exact hT.elim
  | shelf ps =>
    intro L w b H hT hW hcn hsz
    obtain ⟨t, ht⟩ : ∃ t, t = BT.shelf ps := ⟨_, rfl⟩
    rw [← ht] at hcn
    obtain ⟨h0, vw, vp, q, h1, hKey, h3, h4, h5⟩ := id hT
    rw [← ht] at hT
    obtain ⟨pl, hpl⟩ : ∃ pl, pl = ps.length := ⟨_, rfl⟩
    have sP : IsSl vp pl := by rw [hpl]; exact h3.sl
    have c0 : cel H b 0 = some vw := by rw [h1.cel]; rfl
    have c1 : cel H b 1 = some vp := by rw [h1.cel]; rfl
    have c4 : cel H b 4 = some (.map none) := by rw [h1.cel]; rfl
    have hkr := Keep.refl Non H
    have hwl : w.length ≤ 65535 := hW.1.short hW.2.1
    have h8 := hW.2.2
    refine ret_of Try.func60 rfl rfl rfl rfl ?_
    intro w0
    repeat (first | refine zb ?_ | refine zx ?_ | refine zy ?_ | refine zz ?_ | refine zzd ?_)
    refine cw_cut (fun s : Value × Nat => [(0, ptr b 0), (3, ptr s.2 0)]) (fun s H' => Keep Non H H' ∧ Blk H' s.2 [.int .i64 11, .int .i64 0, .int .i64 t.count, .int .i64 pl, .int .u8 0, .bool false, .int .u64 0, s.1, .slice none 0 0] ∧ H.size ≤ s.2 ∧ Own 1 H' s.1 w.length (bvs w) ∧ (0 < sc s.1 → H.size ≤ sb s.1 ∧ sb s.1 < H'.size ∧ sb s.1 ≠ s.2)) ?_ ?_
    · refine cw_held (fun _ => Keep Non H) ⟨[4, 11, 13, 14], [(3, 0), (8, 0)]⟩ (.op 0 (.op 1 (.op 2 (.op 3 (.op 5 (.op 6 (.op 7 (.op 8 (.op 9 (.op 10 (.alt (.op 4 (.alt (.op 11 (.op 12 (.op 13 (.op 14 (.nil))))) (.op 13 (.op 11 (.op 12 (.op 14 (.nil))))))) (.op 13 (.op 4 (.op 11 (.op 12 (.op 14 (.nil))))))))))))))))) panicOk_body mixed (by kernel_rfl) ?_
      repeat (first | refine za ?_ | refine zb ?_ | refine zc ?_ | refine zj ?_ | refine zl ?_ | refine zs ?_ | refine zt ?_ | refine zv ?_ | refine zw ?_ | refine zx ?_ | refine zy ?_ | refine zz ?_ | refine zza ?_ | refine zzb ?_ | refine zzc ?_ | refine zzd ?_ | refine zze ?_ | refine zzf ?_ | refine zzg ?_)
      refine x_load rfl rfl (hpmk rfl (fun _ hk => hk.cel c0 (fun h => h))) rfl (okq_load rfl rfl (by assumption)) ?_
      repeat (first | refine za ?_ | refine zb ?_ | refine zc ?_ | refine zj ?_ | refine zl ?_ | refine zs ?_ | refine zt ?_ | refine zv ?_ | refine zw ?_ | refine zx ?_ | refine zy ?_ | refine zz ?_ | refine zza ?_ | refine zzb ?_ | refine zzc ?_ | refine zzd ?_ | refine zze ?_ | refine zzf ?_ | refine zzg ?_)
      refine x_load rfl rfl (hpmk rfl (fun _ hk => hk.cel c1 (fun h => h))) rfl (okq_load rfl rfl (by assumption)) ?_
      repeat (first | refine za ?_ | refine zb ?_ | refine zc ?_ | refine zj ?_ | refine zl ?_ | refine zs ?_ | refine zt ?_ | refine zv ?_ | refine zw ?_ | refine zx ?_ | refine zy ?_ | refine zz ?_ | refine zza ?_ | refine zzb ?_ | refine zzc ?_ | refine zzd ?_ | refine zze ?_ | refine zzf ?_ | refine zzg ?_)
      refine x_alt ?_ ?_
      · refine x_call rfl rfl rfl ⟨rfl, rfl⟩ (slices_Clone hKey.1 (by omega)) ?_
        rintro ck H1 ⟨hk1, hck, hfk⟩
        refine ⟨okm_keep hk1 (fun _ _ h => h), ?_⟩
        repeat (first | refine za ?_ | refine zb ?_ | refine zc ?_ | refine zj ?_ | refine zl ?_ | refine zs ?_ | refine zt ?_ | refine zv ?_ | refine zw ?_ | refine zx ?_ | refine zy ?_ | refine zz ?_ | refine zza ?_ | refine zzb ?_ | refine zzc ?_ | refine zzd ?_ | refine zze ?_ | refine zzf ?_ | refine zzg ?_)
        refine x_alt ?_ ?_
        · refine x_call rfl rfl rfl ⟨rfl, rfl⟩ (burst_count t (hT.keepN hk1) (by omega)) ?_
          rintro _ H2 ⟨hk2, rfl⟩
          refine ⟨okm_keep hk2 (fun _ _ h => h), ?_⟩
          refine x_build (cs := [.int .i64 11, .int .i64 0, .int .i64 t.count, .int .i64 pl, .int .u8 0, .bool false, .int .u64 0, ck, .slice none 0 0]) rfl rfl rfl (by intro x hx; simp only [List.mem_cons, List.not_mem_nil, or_false] at hx; rcases hx with rfl | rfl | rfl | rfl <;> first | rfl | exact isSl_oneC hck.sl) rfl (okq_reg rfl rfl) ?_
          refine x_alloc rfl rfl ⟨rfl, rfl⟩ ?_
          intro H3 hn3
          refine ⟨okm_keep hn3.keep (fun _ _ h => h.elim), ?_⟩
          have hA : Blk H3 H2.size zC := hn3.blk
          have hk03 : Keep Non H H3 := hn3.old (hk1.non_trans hk2)
          have hck3 : Own 1 H3 ck w.length (bvs w) := (hck.keep hk2 (fun _ h => h)).keep hn3.keep (fun _ h => h)
          have hf3 : 0 < sc ck → H.size ≤ sb ck ∧ sb ck < H3.size ∧ sb ck ≠ H2.size := fun hc => by have h1 := hfk hc; have h2 := hn3.size; have h3 := hck.lt hc; have h4 := hk2.size; omega
          have hage : H.size ≤ H2.size := by have h1 := hk1.size; have h2 := hk2.size; omega
          refine x_stores rfl rfl rfl rfl (cls_one hck3.sl) hA (by simp [zC]) ⟨rfl, rfl⟩ ?_
          intro H4 hB4 hk4 hs4
          refine ⟨okm_free (fun c => by cases c <;> kernel_rfl), ?_⟩
          repeat (first | refine za ?_ | refine zb ?_ | refine zc ?_ | refine zj ?_ | refine zl ?_ | refine zs ?_ | refine zt ?_ | refine zv ?_ | refine zw ?_ | refine zx ?_ | refine zy ?_ | refine zz ?_ | refine zza ?_ | refine zzb ?_ | refine zzc ?_ | refine zzd ?_ | refine zze ?_ | refine zzf ?_ | refine zzg ?_)
          repeat (first | refine za ?_ | refine zb ?_ | refine zc ?_ | refine zh ?_ | refine zj ?_ | refine zl ?_ | refine zs ?_ | refine zt ?_ | refine zv ?_ | refine zw ?_ | refine zx ?_ | refine zy ?_ | refine zz ?_ | refine zza ?_ | refine zzb ?_ | refine zzc ?_ | refine zzd ?_ | refine zze ?_ | refine zzf ?_ | refine zzg ?_)
          refine nw_meet (ck, _) (by repeat (first | exact True.intro | refine ⟨rfl, ?_⟩)) ⟨keep_at hk03 hk4 hage, by simpa [putL, zC] using hB4, hage, hck3.keep hk4 (fun hc e => (hf3 hc).2.2 e), fun hc => by
            have hc : 0 < sc ck := hc
            have hh := hf3 hc
            exact ⟨hh.1, by show sb ck < _; omega, hh.2.2⟩⟩
        · refine x_alloc rfl rfl ⟨rfl, rfl⟩ ?_
          intro H2 hn2
          refine ⟨okm_keep hn2.keep (fun _ _ h => h.elim), ?_⟩
          refine x_call rfl rfl rfl ⟨rfl, rfl⟩ (burst_count t (hT.keepN (hn2.old hk1)) (by omega)) ?_
          rintro _ H3 ⟨hk3, rfl⟩
          refine ⟨okm_keep hk3 (fun _ _ h => h), ?_⟩
          refine x_build (cs := [.int .i64 11, .int .i64 0, .int .i64 t.count, .int .i64 pl, .int .u8 0, .bool false, .int .u64 0, ck, .slice none 0 0]) rfl rfl rfl (by intro x hx; simp only [List.mem_cons, List.not_mem_nil, or_false] at hx; rcases hx with rfl | rfl | rfl | rfl <;> first | rfl | exact isSl_oneC hck.sl) rfl (okq_reg rfl rfl) ?_
          have hA : Blk H3 H1.size zC := hn2.blk.keep hk3 (fun h => h)
          have hk03 : Keep Non H H3 := (hn2.old hk1).non_trans hk3
          have hck3 : Own 1 H3 ck w.length (bvs w) := (hck.keep hn2.keep (fun _ h => h)).keep hk3 (fun _ h => h)
          have hf3 : 0 < sc ck → H.size ≤ sb ck ∧ sb ck < H3.size ∧ sb ck ≠ H1.size := fun hc => by have h1 := hfk hc; have h2 := hn2.size; have h3 := hck.lt hc; have h4 := hk3.size; omega
          have hage : H.size ≤ H1.size := by have h1 := hk1.size; omega
          refine x_stores rfl rfl rfl rfl (cls_one hck3.sl) hA (by simp [zC]) ⟨rfl, rfl⟩ ?_
          intro H4 hB4 hk4 hs4
          refine ⟨okm_free (fun c => by cases c <;> kernel_rfl), ?_⟩
          repeat (first | refine za ?_ | refine zb ?_ | refine zc ?_ | refine zj ?_ | refine zl ?_ | refine zs ?_ | refine zt ?_ | refine zv ?_ | refine zw ?_ | refine zx ?_ | refine zy ?_ | refine zz ?_ | refine zza ?_ | refine zzb ?_ | refine zzc ?_ | refine zzd ?_ | refine zze ?_ | refine zzf ?_ | refine zzg ?_)
          repeat (first | refine za ?_ | refine zb ?_ | refine zc ?_ | refine zh ?_ | refine zj ?_ | refine zl ?_ | refine zs ?_ | refine zt ?_ | refine zv ?_ | refine zw ?_ | refine zx ?_ | refine zy ?_ | refine zz ?_ | refine zza ?_ | refine zzb ?_ | refine zzc ?_ | refine zzd ?_ | refine zze ?_ | refine zzf ?_ | refine zzg ?_)
          refine nw_meet (ck, _) (by repeat (first | exact True.intro | refine ⟨rfl, ?_⟩)) ⟨keep_at hk03 hk4 hage, by simpa [putL, zC] using hB4, hage, hck3.keep hk4 (fun hc e => (hf3 hc).2.2 e), fun hc => by
            have hc : 0 < sc ck := hc
            have hh := hf3 hc
            exact ⟨hh.1, by show sb ck < _; omega, hh.2.2⟩⟩
      · refine x_alloc rfl rfl ⟨rfl, rfl⟩ ?_
        intro H1 hn1
        refine ⟨okm_keep hn1.keep (fun _ _ h => h.elim), ?_⟩
        refine x_call rfl rfl rfl ⟨rfl, rfl⟩ (slices_Clone (hKey.1.keepN hn1.keep) (by omega)) ?_
        rintro ck H2 ⟨hk2, hck, hfk1⟩
        refine ⟨okm_keep hk2 (fun _ _ h => h), ?_⟩
        repeat (first | refine za ?_ | refine zb ?_ | refine zc ?_ | refine zj ?_ | refine zl ?_ | refine zs ?_ | refine zt ?_ | refine zv ?_ | refine zw ?_ | refine zx ?_ | refine zy ?_ | refine zz ?_ | refine zza ?_ | refine zzb ?_ | refine zzc ?_ | refine zzd ?_ | refine zze ?_ | refine zzf ?_ | refine zzg ?_)
        refine x_call rfl rfl rfl ⟨rfl, rfl⟩ (burst_count t (hT.keepN (hn1.keep.non_trans hk2)) (by omega)) ?_
        rintro _ H3 ⟨hk3, rfl⟩
        refine ⟨okm_keep hk3 (fun _ _ h => h), ?_⟩
        refine x_build (cs := [.int .i64 11, .int .i64 0, .int .i64 t.count, .int .i64 pl, .int .u8 0, .bool false, .int .u64 0, ck, .slice none 0 0]) rfl rfl rfl (by intro x hx; simp only [List.mem_cons, List.not_mem_nil, or_false] at hx; rcases hx with rfl | rfl | rfl | rfl <;> first | rfl | exact isSl_oneC hck.sl) rfl (okq_reg rfl rfl) ?_
        have hA : Blk H3 H.size zC := (hn1.blk.keep hk2 (fun h => h)).keep hk3 (fun h => h)
        have hk03 : Keep Non H H3 := (hn1.keep.non_trans hk2).non_trans hk3
        have hck3 : Own 1 H3 ck w.length (bvs w) := hck.keep hk3 (fun _ h => h)
        have hf3 : 0 < sc ck → H.size ≤ sb ck ∧ sb ck < H3.size ∧ sb ck ≠ H.size := fun hc => by have h1 := hfk1 hc; have h2 := hn1.size; have h3 := hck.lt hc; have h4 := hk3.size; omega
        have hage : H.size ≤ H.size := Nat.le_refl _
        refine x_stores rfl rfl rfl rfl (cls_one hck3.sl) hA (by simp [zC]) ⟨rfl, rfl⟩ ?_
        intro H4 hB4 hk4 hs4
        refine ⟨okm_free (fun c => by cases c <;> kernel_rfl), ?_⟩
        repeat (first | refine za ?_ | refine zb ?_ | refine zc ?_ | refine zj ?_ | refine zl ?_ | refine zs ?_ | refine zt ?_ | refine zv ?_ | refine zw ?_ | refine zx ?_ | refine zy ?_ | refine zz ?_ | refine zza ?_ | refine zzb ?_ | refine zzc ?_ | refine zzd ?_ | refine zze ?_ | refine zzf ?_ | refine zzg ?_)
        repeat (first | refine za ?_ | refine zb ?_ | refine zc ?_ | refine zh ?_ | refine zj ?_ | refine zl ?_ | refine zs ?_ | refine zt ?_ | refine zv ?_ | refine zw ?_ | refine zx ?_ | refine zy ?_ | refine zz ?_ | refine zza ?_ | refine zzb ?_ | refine zzc ?_ | refine zzd ?_ | refine zze ?_ | refine zzf ?_ | refine zzg ?_)
        refine nw_meet (ck, _) (by repeat (first | exact True.intro | refine ⟨rfl, ?_⟩)) ⟨keep_at hk03 hk4 hage, by simpa [putL, zC] using hB4, hage, hck3.keep hk4 (fun hc e => (hf3 hc).2.2 e), fun hc => by
          have hc : 0 < sc ck := hc
          have hh := hf3 hc
          exact ⟨hh.1, by show sb ck < _; omega, hh.2.2⟩⟩
    · rintro ⟨ck, a⟩ H1 ⟨hk1, hB1, ha1, hck1, hf1⟩
      dsimp only at hB1 ha1 hck1 hf1 ⊢
      have hs1 := hk1.size
      have hal := hB1.lt
      have c4' := hk1.cel c4 (fun h => h)
      have c1' := hk1.cel c1 (fun h => h)
      have h3' := h3.keep hk1 (fun _ h => h)
      repeat (first | refine za ?_ | refine zb ?_ | refine zc ?_ | refine zh ?_ | refine zj ?_ | refine zl ?_ | refine zs ?_ | refine zt ?_ | refine zv ?_ | refine zw ?_ | refine zx ?_ | refine zy ?_ | refine zz ?_ | refine zza ?_ | refine zzb ?_ | refine zzc ?_ | refine zzd ?_ | refine zze ?_ | refine zzf ?_ | refine zzg ?_)
      refine x_load rfl rfl (hpmt (c4')) rfl trivial ?_
      repeat (first | refine za ?_ | refine zb ?_ | refine zc ?_ | refine zh ?_ | refine zj ?_ | refine zl ?_ | refine zs ?_ | refine zt ?_ | refine zv ?_ | refine zw ?_ | refine zx ?_ | refine zy ?_ | refine zz ?_ | refine zza ?_ | refine zzb ?_ | refine zzc ?_ | refine zzd ?_ | refine zze ?_ | refine zzf ?_ | refine zzg ?_)
      refine x_meqn rfl rfl rfl rfl trivial ?_
      repeat (first | refine za ?_ | refine zb ?_ | refine zc ?_ | refine zh ?_ | refine zj ?_ | refine zl ?_ | refine zs ?_ | refine zt ?_ | refine zv ?_ | refine zw ?_ | refine zx ?_ | refine zy ?_ | refine zz ?_ | refine zza ?_ | refine zzb ?_ | refine zzc ?_ | refine zzd ?_ | refine zze ?_ | refine zzf ?_ | refine zzg ?_)
      refine x_load rfl rfl (hpmt (c1')) rfl trivial ?_
      repeat (first | refine za ?_ | refine zb ?_ | refine zc ?_ | refine zh ?_ | refine zj ?_ | refine zl ?_ | refine zs ?_ | refine zt ?_ | refine zv ?_ | refine zw ?_ | refine zx ?_ | refine zy ?_ | refine zz ?_ | refine zza ?_ | refine zzb ?_ | refine zzc ?_ | refine zzd ?_ | refine zze ?_ | refine zzf ?_ | refine zzg ?_)
      refine cw_loop (fun s : Nat × Value => [(3, ptr a 0), (30, vp), (31, .int .i64 pl), (32, .int .i64 s.1)]) (fun s H' => s.1 ≤ pl ∧ Keep (· = a) H1 H' ∧ Blk H' a [.int .i64 11, .int .i64 0, .int .i64 t.count, .int .i64 pl, .int .u8 0, .bool false, .int .u64 0, ck, s.2] ∧ Po H1.size H' s.2 (ps.take s.1)) (fun s => pl - s.1) (0, _) (by repeat (first | exact True.intro | refine ⟨rfl, ?_⟩)) ⟨Nat.zero_le _, Keep.refl _ _, hB1, Po.nil _ _⟩ ?_
      rintro ⟨j, v⟩ H2 ⟨hj, hk2, hB2, hP2⟩
      dsimp only at hj hB2 hP2 ⊢
      have hs2 := hk2.size
      repeat (first | refine za ?_ | refine zb ?_ | refine zc ?_ | refine zh ?_ | refine zj ?_ | refine zl ?_ | refine zs ?_ | refine zt ?_ | refine zv ?_ | refine zw ?_ | refine zx ?_ | refine zy ?_ | refine zz ?_ | refine zza ?_ | refine zzb ?_ | refine zzc ?_ | refine zzd ?_ | refine zze ?_ | refine zzf ?_ | refine zzg ?_)
      refine cw_cond rfl (fun hjl => ?_) (fun hjl => ?_) <;> (try simp at hjl)
      · obtain ⟨p, hp⟩ : ∃ p, ps[j]? = some p := ⟨_, List.getElem?_eq_getElem (by omega)⟩
        obtain ⟨ko, hqk, hko⟩ := h5.get hp
        obtain ⟨a1, a2⟩ := cel_pcs h3'.cels hqk
        have hpl65 := hW.1.may p (List.mem_of_getElem? hp)
        have hva : ¬ sb vp = a := fun e => by have := h3.lt (by have := sP.cap; omega); omega
        have a1' : cel H2 (sb vp) (so vp + j * 2) = some ko := hk2.cel a1 hva
        have a2' : cel H2 (sb vp) (so vp + j * 2 + 1) = some (.int .u64 p.2) := hk2.cel a2 hva
        repeat (first | refine za ?_ | refine zb ?_ | refine zc ?_ | refine zh ?_ | refine zj ?_ | refine zl ?_ | refine zs ?_ | refine zt ?_ | refine zv ?_ | refine zw ?_ | refine zx ?_ | refine zy ?_ | refine zz ?_ | refine zza ?_ | refine zzb ?_ | refine zzc ?_ | refine zzd ?_ | refine zze ?_ | refine zzf ?_ | refine zzg ?_)
        refine x_loads (cs := [ko, .int .u64 p.2]) rfl rfl rfl (hpmt (cels_two a1' a2')) rfl trivial ?_
        refine x_alloc rfl rfl trivial ?_
        intro H3 hn3
        refine ⟨trivial, ?_⟩
        refine x_stores rfl rfl rfl rfl (two_oneC' (isSl_oneC hko.1.sl)) hn3.blk (by simp) trivial ?_
        intro H4 hB4 hk4 hs4
        refine ⟨trivial, ?_⟩
        have hs3 := hn3.size
        have hk24 : Keep Non H2 H4 := keep_at hn3.keep hk4 (Nat.le_refl _)
        have d0 : cel H4 H2.size 0 = some ko := by rw [hB4.cel]; rfl
        have d1 : cel H4 H2.size 1 = some (.int .u64 p.2) := by rw [hB4.cel]; rfl
        have hBa4 := hB2.keep hk24 (fun h => h)
        have d8 : cel H4 a 8 = some v := by rw [hBa4.cel]; rfl
        have hP4 := hP2.keepN hk24
        obtain ⟨qv, hqv, hov, hdv⟩ := hP4.row
        have hfv := hP4.fresh
        have hjt : (ps.take j).length = j := by simp; omega
        have hko4 : Bs H4 ko p.1 := ((hko.1.keepN hk1).keep hk2 (fun hne e => by have := hko.1.lt hne; omega)).keepN hk24
        have hkv := Keep.refl (fun z => z = sb v ∧ 0 < sc v) H4
        have hav : ¬ (a = sb v ∧ 0 < sc v) := fun e => by have := hfv e.2; omega
        have htv : ¬ (H2.size = sb v ∧ 0 < sc v) := fun e => by have := hov.lt e.2; have h2 := (hP2.row); obtain ⟨_, _, ho2, _⟩ := h2; have := ho2.lt e.2; omega
        repeat (first | refine za ?_ | refine zb ?_ | refine zc ?_ | refine zh ?_ | refine zj ?_ | refine zl ?_ | refine zs ?_ | refine zt ?_ | refine zv ?_ | refine zw ?_ | refine zx ?_ | refine zy ?_ | refine zz ?_ | refine zza ?_ | refine zzb ?_ | refine zzc ?_ | refine zzd ?_ | refine zze ?_ | refine zzf ?_ | refine zzg ?_)
        refine cw_held (fun _ => Keep (fun z => z = sb v ∧ 0 < sc v) H4) ⟨[4, 8, 9, 11], [(1, 0), (3, 0), (6, 0)]⟩ (.op 0 (.op 1 (.op 2 (.op 3 (.op 5 (.op 6 (.op 4 (.op 7 (.op 8 (.op 9 (.op 10 (.op 11 (.nil))))))))))))) panicOk_body mixed (by kernel_rfl) ?_
        repeat (first | refine za ?_ | refine zb ?_ | refine zc ?_ | refine zj ?_ | refine zl ?_ | refine zs ?_ | refine zt ?_ | refine zv ?_ | refine zw ?_ | refine zx ?_ | refine zy ?_ | refine zz ?_ | refine zza ?_ | refine zzb ?_ | refine zzc ?_ | refine zzd ?_ | refine zze ?_ | refine zzf ?_ | refine zzg ?_)
        refine x_load rfl rfl (hpmk rfl (fun _ hk => hk.cel d8 hav)) rfl (okq_load rfl rfl (by assumption)) ?_
        repeat (first | refine za ?_ | refine zb ?_ | refine zc ?_ | refine zj ?_ | refine zl ?_ | refine zs ?_ | refine zt ?_ | refine zv ?_ | refine zw ?_ | refine zx ?_ | refine zy ?_ | refine zz ?_ | refine zza ?_ | refine zzb ?_ | refine zzc ?_ | refine zzd ?_ | refine zze ?_ | refine zzf ?_ | refine zzg ?_)
        refine x_load rfl rfl (hpmk rfl (fun _ hk => hk.cel d0 htv)) rfl (okq_load rfl rfl (by assumption)) ?_
        repeat (first | refine za ?_ | refine zb ?_ | refine zc ?_ | refine zj ?_ | refine zl ?_ | refine zs ?_ | refine zt ?_ | refine zv ?_ | refine zw ?_ | refine zx ?_ | refine zy ?_ | refine zz ?_ | refine zza ?_ | refine zzb ?_ | refine zzc ?_ | refine zzd ?_ | refine zze ?_ | refine zzf ?_ | refine zzg ?_)
        refine x_load rfl rfl (hpmk rfl (fun _ hk => hk.cel d1 htv)) rfl (okq_load rfl rfl (by assumption)) ?_
        repeat (first | refine za ?_ | refine zb ?_ | refine zc ?_ | refine zj ?_ | refine zl ?_ | refine zs ?_ | refine zt ?_ | refine zv ?_ | refine zw ?_ | refine zx ?_ | refine zy ?_ | refine zz ?_ | refine zza ?_ | refine zzb ?_ | refine zzc ?_ | refine zzd ?_ | refine zze ?_ | refine zzf ?_ | refine zzg ?_)
        refine x_call rfl rfl rfl ⟨rfl, rfl⟩ (slices_Clone hko4 (by omega)) ?_
        rintro c5 H5 ⟨hk5, hc5, hf5⟩
        refine ⟨okm_keep hk5 (fun _ _ h => h.elim), ?_⟩
        refine x_build (cs := [c5, .int .u64 (p.2)]) rfl rfl rfl (two_oneC (isSl_oneC hc5.sl)) rfl (okq_reg rfl rfl) ?_
        refine x_buildSliceS1 (by rfl) rfl rfl (by omega) (by rfl) rfl ⟨rfl, rfl⟩ ?_
        intro H6 hn6
        refine ⟨okm_keep hn6.keep (fun _ _ h => h.elim), ?_⟩
        have hk46 := hn6.old hk5
        have hov6 := hov.keep hk46 (fun _ h => h)
        rw [hjt] at hov6
        refine x_append (by rfl) (by rfl) (by rfl) rfl rfl rfl hov6 (isSl_some (Nat.le_refl _) (by omega)) (m := 1) (cx := [c5, .int .u64 p.2]) rfl (hn6.blk.cels 0 2 (by simp)) (two_oneC' (isSl_oneC hc5.sl)) (by omega) rfl ⟨rfl, rfl⟩ ?_
        intro v7 H7 hap
        refine ⟨okm_keep hap.keep (fun z hz e => ⟨e.1, by omega⟩), ?_⟩
        have hs7 := hap.keep.size
        have hs46 := hk46.size
        have hBa7 := (hBa4.keep hk46 (fun h => h)).keep hap.keep (fun e => hav ⟨e.1, by omega⟩)
        have sv7 := hap.own.sl
        repeat (first | refine za ?_ | refine zb ?_ | refine zc ?_ | refine zj ?_ | refine zl ?_ | refine zs ?_ | refine zt ?_ | refine zv ?_ | refine zw ?_ | refine zx ?_ | refine zy ?_ | refine zz ?_ | refine zza ?_ | refine zzb ?_ | refine zzc ?_ | refine zzd ?_ | refine zze ?_ | refine zzf ?_ | refine zzg ?_)
        refine x_store rfl rfl rfl (isSl_oneC sv7) hBa7 (by simp) ⟨rfl, rfl⟩ ?_
        intro H8 hB8 hk8 hs8
        refine ⟨okm_free (fun c => by cases c <;> kernel_rfl), ?_⟩
        repeat (first | refine za ?_ | refine zb ?_ | refine zc ?_ | refine zj ?_ | refine zl ?_ | refine zs ?_ | refine zt ?_ | refine zv ?_ | refine zw ?_ | refine zx ?_ | refine zy ?_ | refine zz ?_ | refine zza ?_ | refine zzb ?_ | refine zzc ?_ | refine zzd ?_ | refine zze ?_ | refine zzf ?_ | refine zzg ?_)
        have hsn : Po H1.size H7 v7 (ps.take j ++ [p]) := by
          rw [← hjt] at hap
          exact Po.snoc hfv hqv hov hdv (by have := hk24.size; omega) hk46 (hc5.keep hn6.keep (fun _ h => h)) hf5 hap
        have hnx : ps.take (j + 1) = ps.take j ++ [p] := by rw [List.take_add_one, hp]; rfl
        repeat (first | refine za ?_ | refine zb ?_ | refine zc ?_ | refine zh ?_ | refine zj ?_ | refine zl ?_ | refine zs ?_ | refine zt ?_ | refine zv ?_ | refine zw ?_ | refine zx ?_ | refine zy ?_ | refine zz ?_ | refine zza ?_ | refine zzb ?_ | refine zzc ?_ | refine zzd ?_ | refine zze ?_ | refine zzf ?_ | refine zzg ?_)
        have hk18 : Keep (· = a) H1 H8 := (((hk2.step hk24 (fun _ _ h => h.elim)).step hk46 (fun _ _ h => h.elim)).step hap.keep (fun z hz e => by have := hfv (by omega); have := e.1; omega)).step hk8 (fun _ _ e => e)
        refine nw_round (j + 1, v7) (by repeat (first | exact True.intro | refine ⟨rfl, ?_⟩)) ⟨by show j + 1 ≤ pl; omega, hk18, hB8, ?_⟩ (by show pl - (j + 1) < pl - j; omega)
        show Po H1.size H8 v7 (ps.take (j + 1))
        rw [hnx]
        exact hsn.keep hk8 (fun z e => by rw [e]; exact hal)
      · have hje : j = ps.length := by omega
        subst hje
        rw [List.take_length] at hP2
        repeat (first | refine za ?_ | refine zb ?_ | refine zc ?_ | refine zh ?_ | refine zj ?_ | refine zl ?_ | refine zs ?_ | refine zt ?_ | refine zv ?_ | refine zw ?_ | refine zx ?_ | refine zy ?_ | refine zz ?_ | refine zza ?_ | refine zzb ?_ | refine zzc ?_ | refine zzd ?_ | refine zze ?_ | refine zzf ?_ | refine zzg ?_)
        refine x_loads (cs := [.int .i64 11, .int .i64 0, .int .i64 t.count, .int .i64 pl, .int .u8 0, .bool false, .int .u64 0, ck, v]) rfl rfl rfl (hpmt (hB2.cels 0 9 (by simp))) rfl trivial ?_
        refine x_buildSliceS1 (c := [.int .i64 11, .int .i64 0, .int .i64 t.count, .int .i64 pl, .int .u8 0, .bool false, .int .u64 0, ck, v]) (by rfl) rfl rfl (by omega) (by rfl) rfl trivial ?_
        intro H3 hn3
        refine ⟨trivial, ?_⟩
        have hs3 := hn3.size
        repeat (first | refine za ?_ | refine zb ?_ | refine zc ?_ | refine zh ?_ | refine zj ?_ | refine zl ?_ | refine zs ?_ | refine zt ?_ | refine zv ?_ | refine zw ?_ | refine zx ?_ | refine zy ?_ | refine zz ?_ | refine zza ?_ | refine zzb ?_ | refine zzc ?_ | refine zzd ?_ | refine zze ?_ | refine zzf ?_ | refine zzg ?_)
        have hk03 : Keep Non H H3 := hn3.old (keep_at hk1 hk2 ha1)
        obtain ⟨qv, hqv, hov, hdv⟩ := hP2.row
        have hfv := hP2.fresh
        have hck2 := hck1.keep hk2 (fun hc => (hf1 hc).2.2)
        refine cw_ret1 rfl rfl ⟨hk03, fun x => H.size ≤ x ∧ x < H2.size, ⟨⟨[({ kind := 11, count := t.count, kids := pl, key := w, pairs := ps }, ck, v)], Al.one ⟨?_, ⟨(hck2.bs.keepN hn3.keep), fun hne => ?_⟩, ⟨hov.sl, qv, ?_, hov.cels.keep hn3.keep (fun _ h => h)⟩, fun hne => ?_⟩, Own.new hn3 rfl (by omega)⟩, fun x hx => ⟨hx.1, by omega⟩, fun _ => ⟨?_, fun hx => ?_⟩⟩⟩
        · subst ht; rw [hpl]; rfl
        · have hne : w ≠ [] := hne
          have h7 := List.length_pos_iff.2 hne
          have h8 := hf1 (by have := hck1.sl.cap; omega)
          exact ⟨h8.1, by show sb ck < H2.size; omega⟩
        · refine hqv.mono fun u c' hb => ⟨hb.1.bs.keepN hn3.keep, fun hne => ?_⟩
          have h7 := List.length_pos_iff.2 hne
          have h8 := hb.2 (by have := hb.1.sl.cap; omega)
          exact ⟨by omega, hb.1.lt (by have := hb.1.sl.cap; omega)⟩
        · have hne : ps ≠ [] := hne
          have h7 := List.length_pos_iff.2 hne
          have h9 : 0 < sc v := by have := hov.sl.cap; omega
          have h8 := hfv h9
          exact ⟨by show H.size ≤ sb v; omega, hov.lt h9⟩
        · show H.size ≤ H2.size; omega
        · have hx : H.size ≤ H2.size ∧ H2.size < H2.size := hx
          omega
  | node own kids ih =>
    intro L w b H hT hW hcn hsz
    obtain ⟨t, ht⟩ : ∃ t, t = BT.node own kids := ⟨_, rfl⟩
    have hlenT := BT.cells_len (.node own kids) w
    rw [← ht] at hcn
    obtain ⟨vw, m, f, hN⟩ := hT.nd
    have hKey := hN.key
    rw [← ht] at hT
    obtain ⟨pl, hpl⟩ : ∃ pl, pl = 0 := ⟨_, rfl⟩
    have sP : IsSl (.slice none 0 0) pl := by rw [hpl]; exact isSl_nil
    have c0 : cel H b 0 = some vw := by rw [hN.blk.cel]; rfl
    have c1 : cel H b 1 = some (.slice none 0 0) := by rw [hN.blk.cel]; rfl
    have hkr := Keep.refl Non H
    have hwl : w.length ≤ 65535 := hW.1
    have hbl := hN.blk.lt
    have hnum : (numF f : Int) = (BT.kidsN kids : Nat) := by
      have h0 : numF f = BT.kidsN kids := by
        unfold numF BT.kidsN
        refine sumB_congr fun c => ?_
        rcases hN.kids c with ⟨h1, h2⟩ | ⟨x, h1, h2⟩
        · rw [h1, h2]; rfl
        · rw [h1]
          cases hk : kids c with
          | nil => rw [hk] at h2; exact h2.elim
          | shelf ps => rfl
          | node o ks => rfl
      rw [h0]
    refine ret_of Try.func60 rfl rfl rfl rfl ?_
    intro w0
    repeat (first | refine zb ?_ | refine zx ?_ | refine zy ?_ | refine zz ?_ | refine zzd ?_)
    refine cw_cut (fun s : Value × Nat => [(0, ptr b 0), (3, ptr s.2 0)]) (fun s H' => Keep Non H H' ∧ Blk H' s.2 [.int .i64 11, .int .i64 0, .int .i64 t.count, .int .i64 pl, .int .u8 0, .bool false, .int .u64 0, s.1, .slice none 0 0] ∧ H.size ≤ s.2 ∧ Own 1 H' s.1 w.length (bvs w) ∧ (0 < sc s.1 → H.size ≤ sb s.1 ∧ sb s.1 < H'.size ∧ sb s.1 ≠ s.2)) ?_ ?_
    · refine cw_held (fun _ => Keep Non H) ⟨[4, 11, 13, 14], [(3, 0), (8, 0)]⟩ (.op 0 (.op 1 (.op 2 (.op 3 (.op 5 (.op 6 (.op 7 (.op 8 (.op 9 (.op 10 (.alt (.op 4 (.alt (.op 11 (.op 12 (.op 13 (.op 14 (.nil))))) (.op 13 (.op 11 (.op 12 (.op 14 (.nil))))))) (.op 13 (.op 4 (.op 11 (.op 12 (.op 14 (.nil))))))))))))))))) panicOk_body mixed (by kernel_rfl) ?_
      repeat (first | refine za ?_ | refine zb ?_ | refine zc ?_ | refine zj ?_ | refine zl ?_ | refine zs ?_ | refine zt ?_ | refine zv ?_ | refine zw ?_ | refine zx ?_ | refine zy ?_ | refine zz ?_ | refine zza ?_ | refine zzb ?_ | refine zzc ?_ | refine zzd ?_ | refine zze ?_ | refine zzf ?_ | refine zzg ?_)
      refine x_load rfl rfl (hpmk rfl (fun _ hk => hk.cel c0 (fun h => h))) rfl (okq_load rfl rfl (by assumption)) ?_
      repeat (first | refine za ?_ | refine zb ?_ | refine zc ?_ | refine zj ?_ | refine zl ?_ | refine zs ?_ | refine zt ?_ | refine zv ?_ | refine zw ?_ | refine zx ?_ | refine zy ?_ | refine zz ?_ | refine zza ?_ | refine zzb ?_ | refine zzc ?_ | refine zzd ?_ | refine zze ?_ | refine zzf ?_ | refine zzg ?_)
      refine x_load rfl rfl (hpmk rfl (fun _ hk => hk.cel c1 (fun h => h))) rfl (okq_load rfl rfl (by assumption)) ?_
      repeat (first | refine za ?_ | refine zb ?_ | refine zc ?_ | refine zj ?_ | refine zl ?_ | refine zs ?_ | refine zt ?_ | refine zv ?_ | refine zw ?_ | refine zx ?_ | refine zy ?_ | refine zz ?_ | refine zza ?_ | refine zzb ?_ | refine zzc ?_ | refine zzd ?_ | refine zze ?_ | refine zzf ?_ | refine zzg ?_)
      refine x_alt ?_ ?_
      · refine x_call rfl rfl rfl ⟨rfl, rfl⟩ (slices_Clone hKey.1 (by omega)) ?_
        rintro ck H1 ⟨hk1, hck, hfk⟩
        refine ⟨okm_keep hk1 (fun _ _ h => h), ?_⟩
        repeat (first | refine za ?_ | refine zb ?_ | refine zc ?_ | refine zj ?_ | refine zl ?_ | refine zs ?_ | refine zt ?_ | refine zv ?_ | refine zw ?_ | refine zx ?_ | refine zy ?_ | refine zz ?_ | refine zza ?_ | refine zzb ?_ | refine zzc ?_ | refine zzd ?_ | refine zze ?_ | refine zzf ?_ | refine zzg ?_)
        refine x_alt ?_ ?_
        · refine x_call rfl rfl rfl ⟨rfl, rfl⟩ (burst_count t (hT.keepN hk1) (by omega)) ?_
          rintro _ H2 ⟨hk2, rfl⟩
          refine ⟨okm_keep hk2 (fun _ _ h => h), ?_⟩
          refine x_build (cs := [.int .i64 11, .int .i64 0, .int .i64 t.count, .int .i64 pl, .int .u8 0, .bool false, .int .u64 0, ck, .slice none 0 0]) rfl rfl rfl (by intro x hx; simp only [List.mem_cons, List.not_mem_nil, or_false] at hx; rcases hx with rfl | rfl | rfl | rfl <;> first | rfl | exact isSl_oneC hck.sl) rfl (okq_reg rfl rfl) ?_
          refine x_alloc rfl rfl ⟨rfl, rfl⟩ ?_
          intro H3 hn3
          refine ⟨okm_keep hn3.keep (fun _ _ h => h.elim), ?_⟩
          have hA : Blk H3 H2.size zC := hn3.blk
          have hk03 : Keep Non H H3 := hn3.old (hk1.non_trans hk2)
          have hck3 : Own 1 H3 ck w.length (bvs w) := (hck.keep hk2 (fun _ h => h)).keep hn3.keep (fun _ h => h)
          have hf3 : 0 < sc ck → H.size ≤ sb ck ∧ sb ck < H3.size ∧ sb ck ≠ H2.size := fun hc => by have h1 := hfk hc; have h2 := hn3.size; have h3 := hck.lt hc; have h4 := hk2.size; omega
          have hage : H.size ≤ H2.size := by have h1 := hk1.size; have h2 := hk2.size; omega
          refine x_stores rfl rfl rfl rfl (cls_one hck3.sl) hA (by simp [zC]) ⟨rfl, rfl⟩ ?_
          intro H4 hB4 hk4 hs4
          refine ⟨okm_free (fun c => by cases c <;> kernel_rfl), ?_⟩
          repeat (first | refine za ?_ | refine zb ?_ | refine zc ?_ | refine zj ?_ | refine zl ?_ | refine zs ?_ | refine zt ?_ | refine zv ?_ | refine zw ?_ | refine zx ?_ | refine zy ?_ | refine zz ?_ | refine zza ?_ | refine zzb ?_ | refine zzc ?_ | refine zzd ?_ | refine zze ?_ | refine zzf ?_ | refine zzg ?_)
          repeat (first | refine za ?_ | refine zb ?_ | refine zc ?_ | refine zh ?_ | refine zj ?_ | refine zl ?_ | refine zs ?_ | refine zt ?_ | refine zv ?_ | refine zw ?_ | refine zx ?_ | refine zy ?_ | refine zz ?_ | refine zza ?_ | refine zzb ?_ | refine zzc ?_ | refine zzd ?_ | refine zze ?_ | refine zzf ?_ | refine zzg ?_)
          refine nw_meet (ck, _) (by repeat (first | exact True.intro | refine ⟨rfl, ?_⟩)) ⟨keep_at hk03 hk4 hage, by simpa [putL, zC] using hB4, hage, hck3.keep hk4 (fun hc e => (hf3 hc).2.2 e), fun hc => by
            have hc : 0 < sc ck := hc
            have hh := hf3 hc
            exact ⟨hh.1, by show sb ck < _; omega, hh.2.2⟩⟩
        · refine x_alloc rfl rfl ⟨rfl, rfl⟩ ?_
          intro H2 hn2
          refine ⟨okm_keep hn2.keep (fun _ _ h => h.elim), ?_⟩
          refine x_call rfl rfl rfl ⟨rfl, rfl⟩ (burst_count t (hT.keepN (hn2.old hk1)) (by omega)) ?_
          rintro _ H3 ⟨hk3, rfl⟩
          refine ⟨okm_keep hk3 (fun _ _ h => h), ?_⟩
          refine x_build (cs := [.int .i64 11, .int .i64 0, .int .i64 t.count, .int .i64 pl, .int .u8 0, .bool false, .int .u64 0, ck, .slice none 0 0]) rfl rfl rfl (by intro x hx; simp only [List.mem_cons, List.not_mem_nil, or_false] at hx; rcases hx with rfl | rfl | rfl | rfl <;> first | rfl | exact isSl_oneC hck.sl) rfl (okq_reg rfl rfl) ?_
          have hA : Blk H3 H1.size zC := hn2.blk.keep hk3 (fun h => h)
          have hk03 : Keep Non H H3 := (hn2.old hk1).non_trans hk3
          have hck3 : Own 1 H3 ck w.length (bvs w) := (hck.keep hn2.keep (fun _ h => h)).keep hk3 (fun _ h => h)
          have hf3 : 0 < sc ck → H.size ≤ sb ck ∧ sb ck < H3.size ∧ sb ck ≠ H1.size := fun hc => by have h1 := hfk hc; have h2 := hn2.size; have h3 := hck.lt hc; have h4 := hk3.size; omega
          have hage : H.size ≤ H1.size := by have h1 := hk1.size; omega
          refine x_stores rfl rfl rfl rfl (cls_one hck3.sl) hA (by simp [zC]) ⟨rfl, rfl⟩ ?_
          intro H4 hB4 hk4 hs4
          refine ⟨okm_free (fun c => by cases c <;> kernel_rfl), ?_⟩
          repeat (first | refine za ?_ | refine zb ?_ | refine zc ?_ | refine zj ?_ | refine zl ?_ | refine zs ?_ | refine zt ?_ | refine zv ?_ | refine zw ?_ | refine zx ?_ | refine zy ?_ | refine zz ?_ | refine zza ?_ | refine zzb ?_ | refine zzc ?_ | refine zzd ?_ | refine zze ?_ | refine zzf ?_ | refine zzg ?_)
          repeat (first | refine za ?_ | refine zb ?_ | refine zc ?_ | refine zh ?_ | refine zj ?_ | refine zl ?_ | refine zs ?_ | refine zt ?_ | refine zv ?_ | refine zw ?_ | refine zx ?_ | refine zy ?_ | refine zz ?_ | refine zza ?_ | refine zzb ?_ | refine zzc ?_ | refine zzd ?_ | refine zze ?_ | refine zzf ?_ | refine zzg ?_)
          refine nw_meet (ck, _) (by repeat (first | exact True.intro | refine ⟨rfl, ?_⟩)) ⟨keep_at hk03 hk4 hage, by simpa [putL, zC] using hB4, hage, hck3.keep hk4 (fun hc e => (hf3 hc).2.2 e), fun hc => by
            have hc : 0 < sc ck := hc
            have hh := hf3 hc
            exact ⟨hh.1, by show sb ck < _; omega, hh.2.2⟩⟩
      · refine x_alloc rfl rfl ⟨rfl, rfl⟩ ?_
        intro H1 hn1
        refine ⟨okm_keep hn1.keep (fun _ _ h => h.elim), ?_⟩
        refine x_call rfl rfl rfl ⟨rfl, rfl⟩ (slices_Clone (hKey.1.keepN hn1.keep) (by omega)) ?_
        rintro ck H2 ⟨hk2, hck, hfk1⟩
        refine ⟨okm_keep hk2 (fun _ _ h => h), ?_⟩
        repeat (first | refine za ?_ | refine zb ?_ | refine zc ?_ | refine zj ?_ | refine zl ?_ | refine zs ?_ | refine zt ?_ | refine zv ?_ | refine zw ?_ | refine zx ?_ | refine zy ?_ | refine zz ?_ | refine zza ?_ | refine zzb ?_ | refine zzc ?_ | refine zzd ?_ | refine zze ?_ | refine zzf ?_ | refine zzg ?_)
        refine x_call rfl rfl rfl ⟨rfl, rfl⟩ (burst_count t (hT.keepN (hn1.keep.non_trans hk2)) (by omega)) ?_
        rintro _ H3 ⟨hk3, rfl⟩
        refine ⟨okm_keep hk3 (fun _ _ h => h), ?_⟩
        refine x_build (cs := [.int .i64 11, .int .i64 0, .int .i64 t.count, .int .i64 pl, .int .u8 0, .bool false, .int .u64 0, ck, .slice none 0 0]) rfl rfl rfl (by intro x hx; simp only [List.mem_cons, List.not_mem_nil, or_false] at hx; rcases hx with rfl | rfl | rfl | rfl <;> first | rfl | exact isSl_oneC hck.sl) rfl (okq_reg rfl rfl) ?_
        have hA : Blk H3 H.size zC := (hn1.blk.keep hk2 (fun h => h)).keep hk3 (fun h => h)
        have hk03 : Keep Non H H3 := (hn1.keep.non_trans hk2).non_trans hk3
        have hck3 : Own 1 H3 ck w.length (bvs w) := hck.keep hk3 (fun _ h => h)
        have hf3 : 0 < sc ck → H.size ≤ sb ck ∧ sb ck < H3.size ∧ sb ck ≠ H.size := fun hc => by have h1 := hfk1 hc; have h2 := hn1.size; have h3 := hck.lt hc; have h4 := hk3.size; omega
        have hage : H.size ≤ H.size := Nat.le_refl _
        refine x_stores rfl rfl rfl rfl (cls_one hck3.sl) hA (by simp [zC]) ⟨rfl, rfl⟩ ?_
        intro H4 hB4 hk4 hs4
        refine ⟨okm_free (fun c => by cases c <;> kernel_rfl), ?_⟩
        repeat (first | refine za ?_ | refine zb ?_ | refine zc ?_ | refine zj ?_ | refine zl ?_ | refine zs ?_ | refine zt ?_ | refine zv ?_ | refine zw ?_ | refine zx ?_ | refine zy ?_ | refine zz ?_ | refine zza ?_ | refine zzb ?_ | refine zzc ?_ | refine zzd ?_ | refine zze ?_ | refine zzf ?_ | refine zzg ?_)
        repeat (first | refine za ?_ | refine zb ?_ | refine zc ?_ | refine zh ?_ | refine zj ?_ | refine zl ?_ | refine zs ?_ | refine zt ?_ | refine zv ?_ | refine zw ?_ | refine zx ?_ | refine zy ?_ | refine zz ?_ | refine zza ?_ | refine zzb ?_ | refine zzc ?_ | refine zzd ?_ | refine zze ?_ | refine zzf ?_ | refine zzg ?_)
        refine nw_meet (ck, _) (by repeat (first | exact True.intro | refine ⟨rfl, ?_⟩)) ⟨keep_at hk03 hk4 hage, by simpa [putL, zC] using hB4, hage, hck3.keep hk4 (fun hc e => (hf3 hc).2.2 e), fun hc => by
          have hc : 0 < sc ck := hc
          have hh := hf3 hc
          exact ⟨hh.1, by show sb ck < _; omega, hh.2.2⟩⟩
    · rintro ⟨ck, a⟩ H1 ⟨hk1, hB1, ha1, hck1, hf1⟩
      dsimp only at hB1 ha1 hck1 hf1 ⊢
      have hs1 := hk1.size
      have hal := hB1.lt
      have hN1 := hN.keepN hk1
      have c2 : cel H1 b 2 = some (.bool own.isSome) := by rw [hN1.blk.cel]; rfl
      have c3 : cel H1 b 3 = some (.int .u64 (own.getD 0)) := by rw [hN1.blk.cel]; rfl
      have c4 : cel H1 b 4 = some (.map (some m)) := by rw [hN1.blk.cel]; rfl
      have hml := hN.kd.lt
      have hba : ¬ b = a := by omega
      have hma : ¬ m = a := by omega
      have hka := Keep.refl (· = a) H1
      repeat (first | refine za ?_ | refine zb ?_ | refine zc ?_ | refine zh ?_ | refine zj ?_ | refine zl ?_ | refine zs ?_ | refine zt ?_ | refine zv ?_ | refine zw ?_ | refine zx ?_ | refine zy ?_ | refine zz ?_ | refine zza ?_ | refine zzb ?_ | refine zzc ?_ | refine zzd ?_ | refine zze ?_ | refine zzf ?_ | refine zzg ?_)
      refine x_load rfl rfl (hpmt (c4)) rfl trivial ?_
      repeat (first | refine za ?_ | refine zb ?_ | refine zc ?_ | refine zh ?_ | refine zj ?_ | refine zl ?_ | refine zs ?_ | refine zt ?_ | refine zv ?_ | refine zw ?_ | refine zx ?_ | refine zy ?_ | refine zz ?_ | refine zza ?_ | refine zzb ?_ | refine zzc ?_ | refine zzd ?_ | refine zze ?_ | refine zzf ?_ | refine zzg ?_)
      refine x_meqn rfl rfl rfl rfl trivial ?_
      repeat (first | refine za ?_ | refine zb ?_ | refine zc ?_ | refine zh ?_ | refine zj ?_ | refine zl ?_ | refine zs ?_ | refine zt ?_ | refine zv ?_ | refine zw ?_ | refine zx ?_ | refine zy ?_ | refine zz ?_ | refine zza ?_ | refine zzb ?_ | refine zzc ?_ | refine zzd ?_ | refine zze ?_ | refine zzf ?_ | refine zzg ?_)
      refine cw_held (fun _ => Keep (· = a) H1) ⟨[14, 16, 18, 20], [(3, 0), (7, 0), (11, 0), (12, 0)]⟩ (.op 0 (.op 1 (.op 2 (.op 3 (.op 4 (.op 5 (.op 6 (.op 7 (.op 8 (.op 9 (.op 10 (.op 11 (.op 12 (.op 13 (.op 14 (.op 15 (.op 16 (.op 17 (.op 18 (.op 19 (.op 20 (.nil)))))))))))))))))))))) panicOk_body mixed (by kernel_rfl) ?_
      repeat (first | refine za ?_ | refine zb ?_ | refine zc ?_ | refine zj ?_ | refine zl ?_ | refine zs ?_ | refine zt ?_ | refine zv ?_ | refine zw ?_ | refine zx ?_ | refine zy ?_ | refine zz ?_ | refine zza ?_ | refine zzb ?_ | refine zzc ?_ | refine zzd ?_ | refine zze ?_ | refine zzf ?_ | refine zzg ?_)
      refine x_load rfl rfl (hpmk rfl (fun _ hk => hk.cel c2 hba)) rfl (okq_load rfl rfl (by assumption)) ?_
      repeat (first | refine za ?_ | refine zb ?_ | refine zc ?_ | refine zj ?_ | refine zl ?_ | refine zs ?_ | refine zt ?_ | refine zv ?_ | refine zw ?_ | refine zx ?_ | refine zy ?_ | refine zz ?_ | refine zza ?_ | refine zzb ?_ | refine zzc ?_ | refine zzd ?_ | refine zze ?_ | refine zzf ?_ | refine zzg ?_)
      refine x_load rfl rfl (hpmk rfl (fun _ hk => hk.cel c3 hba)) rfl (okq_load rfl rfl (by assumption)) ?_
      repeat (first | refine za ?_ | refine zb ?_ | refine zc ?_ | refine zj ?_ | refine zl ?_ | refine zs ?_ | refine zt ?_ | refine zv ?_ | refine zw ?_ | refine zx ?_ | refine zy ?_ | refine zz ?_ | refine zza ?_ | refine zzb ?_ | refine zzc ?_ | refine zzd ?_ | refine zze ?_ | refine zzf ?_ | refine zzg ?_)
      refine x_load rfl rfl (hpmk rfl (fun _ hk => hk.cel c4 hba)) rfl (okq_load rfl rfl (by assumption)) ?_
      repeat (first | refine za ?_ | refine zb ?_ | refine zc ?_ | refine zj ?_ | refine zl ?_ | refine zs ?_ | refine zt ?_ | refine zv ?_ | refine zw ?_ | refine zx ?_ | refine zy ?_ | refine zz ?_ | refine zza ?_ | refine zzb ?_ | refine zzc ?_ | refine zzd ?_ | refine zze ?_ | refine zzf ?_ | refine zzg ?_)
      refine x_mlen rfl rfl (hpmk rfl (fun _ hk => hN1.kd.keep hk hma)) rfl (okq_load rfl rfl (by assumption)) ?_
      rw [hnum]
      repeat (first | refine za ?_ | refine zb ?_ | refine zc ?_ | refine zj ?_ | refine zl ?_ | refine zs ?_ | refine zt ?_ | refine zv ?_ | refine zw ?_ | refine zx ?_ | refine zy ?_ | refine zz ?_ | refine zza ?_ | refine zzb ?_ | refine zzc ?_ | refine zzd ?_ | refine zze ?_ | refine zzf ?_ | refine zzg ?_)
      refine x_store rfl rfl rfl rfl hB1 (by simp) ⟨rfl, rfl⟩ ?_
      intro H2 hB2 hk2 hs2
      refine ⟨okm_keep hk2 (fun _ _ e => e), ?_⟩
      repeat (first | refine za ?_ | refine zb ?_ | refine zc ?_ | refine zj ?_ | refine zl ?_ | refine zs ?_ | refine zt ?_ | refine zv ?_ | refine zw ?_ | refine zx ?_ | refine zy ?_ | refine zz ?_ | refine zza ?_ | refine zzb ?_ | refine zzc ?_ | refine zzd ?_ | refine zze ?_ | refine zzf ?_ | refine zzg ?_)
      refine x_store rfl rfl rfl rfl hB2 (by simp) ⟨rfl, rfl⟩ ?_
      intro H3 hB3 hk3 hs3
      refine ⟨okm_keep hk3 (fun _ _ e => e), ?_⟩
      repeat (first | refine za ?_ | refine zb ?_ | refine zc ?_ | refine zj ?_ | refine zl ?_ | refine zs ?_ | refine zt ?_ | refine zv ?_ | refine zw ?_ | refine zx ?_ | refine zy ?_ | refine zz ?_ | refine zza ?_ | refine zzb ?_ | refine zzc ?_ | refine zzd ?_ | refine zze ?_ | refine zzf ?_ | refine zzg ?_)
      refine x_store rfl rfl rfl rfl hB3 (by simp) ⟨rfl, rfl⟩ ?_
      intro H4 hB4 hk4 hs4
      refine ⟨okm_keep hk4 (fun _ _ e => e), ?_⟩
      repeat (first | refine za ?_ | refine zb ?_ | refine zc ?_ | refine zj ?_ | refine zl ?_ | refine zs ?_ | refine zt ?_ | refine zv ?_ | refine zw ?_ | refine zx ?_ | refine zy ?_ | refine zz ?_ | refine zza ?_ | refine zzb ?_ | refine zzc ?_ | refine zzd ?_ | refine zze ?_ | refine zzf ?_ | refine zzg ?_)
      refine x_store rfl rfl rfl rfl hB4 (by simp) ⟨rfl, rfl⟩ ?_
      intro H5 hB5 hk5 hs5
      refine ⟨okm_keep hk5 (fun _ _ e => e), ?_⟩
      repeat (first | refine za ?_ | refine zb ?_ | refine zc ?_ | refine zj ?_ | refine zl ?_ | refine zs ?_ | refine zt ?_ | refine zv ?_ | refine zw ?_ | refine zx ?_ | refine zy ?_ | refine zz ?_ | refine zza ?_ | refine zzb ?_ | refine zzc ?_ | refine zzd ?_ | refine zze ?_ | refine zzf ?_ | refine zzg ?_)
      have hk15 : Keep (· = a) H1 H5 := ((hk2.step hk3 (fun _ _ e => e)).step hk4 (fun _ _ e => e)).step hk5 (fun _ _ e => e)
      have hB5' : Blk H5 a [.int .i64 10, .int .i64 0, .int .i64 t.count, .int .i64 (BT.kidsN kids : Nat), .int .u8 0, .bool own.isSome, .int .u64 (own.getD 0), ck, .slice none 0 0] := hB5
      repeat (first | refine za ?_ | refine zb ?_ | refine zc ?_ | refine zh ?_ | refine zj ?_ | refine zl ?_ | refine zs ?_ | refine zt ?_ | refine zv ?_ | refine zw ?_ | refine zx ?_ | refine zy ?_ | refine zz ?_ | refine zza ?_ | refine zzb ?_ | refine zzc ?_ | refine zzd ?_ | refine zze ?_ | refine zzf ?_ | refine zzg ?_)
      refine x_loads (cs := [.int .i64 10, .int .i64 0, .int .i64 t.count, .int .i64 (BT.kidsN kids : Nat), .int .u8 0, .bool own.isSome, .int .u64 (own.getD 0), ck, .slice none 0 0]) rfl rfl rfl (hpmt (hB5'.cels 0 9 (by simp))) rfl trivial ?_
      refine x_buildSliceS1 (c := [.int .i64 10, .int .i64 0, .int .i64 t.count, .int .i64 (BT.kidsN kids : Nat), .int .u8 0, .bool own.isSome, .int .u64 (own.getD 0), ck, .slice none 0 0]) (by rfl) rfl rfl (by omega) (by rfl) rfl trivial ?_
      intro H6 hn6
      refine ⟨trivial, ?_⟩
      have hs6 := hn6.size
      have hk05 := keep_at hk1 hk15 ha1
      have hk06 : Keep Non H H6 := hn6.old hk05
      have hs05 := hk05.size
      have hck5 := hck1.keep hk15 (fun hc => (hf1 hc).2.2)
      obtain ⟨hd, hhd⟩ : ∃ hd : Cel, hd = { kind := 10, count := (BT.node own kids).count, kids := BT.kidsN kids, full := own.isSome, val := own.getD 0, key := w } := ⟨_, rfl⟩
      have hcl : Cls H.size H6 (fun x => H.size ≤ x ∧ x < H5.size) (.slice (some ⟨H5.size, 0, none⟩) 1 1) [hd] := by
        refine ⟨⟨[(hd, ck, .slice none 0 0)], Al.one ⟨rfl, ⟨?_, fun hne => ?_⟩, ?_, fun hne => ?_⟩, ?_⟩, fun x hx => ⟨hx.1, by omega⟩, fun _ => ⟨?_, fun hx => ?_⟩⟩
        · rw [hhd]; exact hck5.bs.keepN hn6.keep
        · rw [hhd] at hne
          have hne : w ≠ [] := hne
          have h7 := List.length_pos_iff.2 hne
          have h8 := hf1 (by have := hck1.sl.cap; omega)
          have h9 := hk15.size
          exact ⟨h8.1, by show sb ck < H5.size; omega⟩
        · rw [hhd]; exact PsK.nil _ _
        · rw [hhd] at hne; exact absurd rfl hne
        · have h1 := Own.new (s := 9) (n := 1) hn6 rfl (by omega)
          have e : rws encC [(hd, ck, Value.slice none 0 0)] = [.int .i64 10, .int .i64 0, .int .i64 t.count, .int .i64 (BT.kidsN kids : Nat), .int .u8 0, .bool own.isSome, .int .u64 (own.getD 0), ck, .slice none 0 0] := by rw [hhd, ht]; rfl
          rw [e]
          exact h1
        · show H.size ≤ H5.size; omega
        · have hx : H.size ≤ H5.size ∧ H5.size < H5.size := hx
          omega
      repeat (first | refine za ?_ | refine zb ?_ | refine zc ?_ | refine zh ?_ | refine zj ?_ | refine zl ?_ | refine zs ?_ | refine zt ?_ | refine zv ?_ | refine zw ?_ | refine zx ?_ | refine zy ?_ | refine zz ?_ | refine zza ?_ | refine zzb ?_ | refine zzc ?_ | refine zzd ?_ | refine zze ?_ | refine zzf ?_ | refine zzg ?_)
      refine cw_loop (fun s : Nat × Value => [(0, ptr b 0), (6, s.2), (69, .int .i64 s.1)]) (fun s H' => s.1 ≤ 256 ∧ Keep Non H H' ∧ ∃ W l, l = [hd] ++ (allB.take s.1).flatMap (fun b => (kids b).cells (w ++ [b])) ∧ Cls H.size H' W s.2 l) (fun s => 256 - s.1) (0, _) (by repeat (first | exact True.intro | refine ⟨rfl, ?_⟩)) ⟨by omega, hk06, _, _, by simp, hcl⟩ ?_
      rintro ⟨j, v⟩ H7 ⟨hj, hk7, W, l, hl, hC⟩
      dsimp only at hj hl hC ⊢
      have hs7 := hk7.size
      repeat (first | refine za ?_ | refine zb ?_ | refine zc ?_ | refine zh ?_ | refine zj ?_ | refine zl ?_ | refine zs ?_ | refine zt ?_ | refine zv ?_ | refine zw ?_ | refine zx ?_ | refine zy ?_ | refine zz ?_ | refine zza ?_ | refine zzb ?_ | refine zzc ?_ | refine zzd ?_ | refine zze ?_ | refine zzf ?_ | refine zzg ?_)
      refine cw_cond rfl (fun hc => ?_) (fun hc => ?_) <;> (try simp at hc)
      · have hc : j < 256 := by omega
        obtain ⟨c, hcj⟩ : ∃ c, c = UInt8.ofNat j := ⟨_, rfl⟩
        have hget : allB[j]? = some c := by rw [hcj]; exact allB_get hc
        have hjc : IntKind.u8.wrap (j : Int) = (c.toNat : Int) := by rw [hcj, wrap_u8_mod]; simp
        have hnext : (allB.take (j + 1)).flatMap (fun b => (kids b).cells (w ++ [b])) = (allB.take j).flatMap (fun b => (kids b).cells (w ++ [b])) ++ (kids c).cells (w ++ [c]) := by
          rw [List.take_add_one, hget]
          simp
        have hN7 := hN.keepN hk7
        have c4' : cel H7 b 4 = some (.map (some m)) := by rw [hN7.blk.cel]; rfl
        repeat (first | refine za ?_ | refine zb ?_ | refine zc ?_ | refine zh ?_ | refine zj ?_ | refine zl ?_ | refine zs ?_ | refine zt ?_ | refine zv ?_ | refine zw ?_ | refine zx ?_ | refine zy ?_ | refine zz ?_ | refine zza ?_ | refine zzb ?_ | refine zzc ?_ | refine zzd ?_ | refine zze ?_ | refine zzf ?_ | refine zzg ?_)
        refine x_load rfl rfl (hpmt (c4')) rfl trivial ?_
        repeat (first | refine za ?_ | refine zb ?_ | refine zc ?_ | refine zh ?_ | refine zj ?_ | refine zl ?_ | refine zs ?_ | refine zt ?_ | refine zv ?_ | refine zw ?_ | refine zx ?_ | refine zy ?_ | refine zz ?_ | refine zza ?_ | refine zzb ?_ | refine zzc ?_ | refine zzd ?_ | refine zze ?_ | refine zzf ?_ | refine zzg ?_)
        refine x_conv_int rfl rfl rfl trivial ?_
        rw [hjc]
        refine x_lookup rfl rfl rfl (hpmt hN7.kd) rfl trivial ?_
        rcases hN.kids c with ⟨hf, he⟩ | ⟨x, hf, htc⟩
        · rw [hf]
          repeat (first | refine za ?_ | refine zb ?_ | refine zc ?_ | refine zh ?_ | refine zj ?_ | refine zl ?_ | refine zs ?_ | refine zt ?_ | refine zv ?_ | refine zw ?_ | refine zx ?_ | refine zy ?_ | refine zz ?_ | refine zza ?_ | refine zzb ?_ | refine zzc ?_ | refine zzd ?_ | refine zze ?_ | refine zzf ?_ | refine zzg ?_)
          refine nw_round (j + 1, v) (by repeat (first | exact True.intro | refine ⟨rfl, ?_⟩)) ⟨hc, hk7, W, l, ?_, hC⟩ (by show 256 - (j + 1) < 256 - j; omega)
          show l = _
          rw [hnext, he, hl]
          simp [BT.cells]
        · rw [hf]
          have hlen := BT.cells_len (kids c) (w ++ [c])
          have hcle := le_sumB (fun b => (kids b).count) c
          have hcntk : (kids c).count ≤ 5000 := by
            have h1 : (BT.node own kids).count = (if own.isSome then 1 else 0) + sumB fun b => (kids b).count := rfl
            rw [ht, h1] at hcn
            omega
          have hlle : l.length + ((kids c).cells (w ++ [c])).length ≤ 1000000 := by
            have e : ((BT.node own kids).cells w).length = ([hd] ++ (allB.take (j + 1)).flatMap (fun b => (kids b).cells (w ++ [b]))).length + ((allB.drop (j + 1)).flatMap (fun b => (kids b).cells (w ++ [b]))).length := by
              show (_ :: allB.flatMap fun b => (kids b).cells (w ++ [b])).length = _
              conv => lhs; rw [← List.take_append_drop (j + 1) allB]
              rw [List.flatMap_append]
              simp only [List.length_append, List.length_cons, List.length_nil]
              omega
            rw [hnext, ← List.append_assoc, ← hl, List.length_append] at e
            omega
          have hkne : (kids c).cells (w ++ [c]) ≠ [] := fun e => by
            have h1 := BT.size_pos htc.ne
            rw [e] at hlen
            simp at hlen
            omega
          repeat (first | refine za ?_ | refine zb ?_ | refine zc ?_ | refine zh ?_ | refine zj ?_ | refine zl ?_ | refine zs ?_ | refine zt ?_ | refine zv ?_ | refine zw ?_ | refine zx ?_ | refine zy ?_ | refine zz ?_ | refine zza ?_ | refine zzb ?_ | refine zzc ?_ | refine zzd ?_ | refine zze ?_ | refine zzf ?_ | refine zzg ?_)
          refine x_call rfl rfl rfl trivial (ih c (htc.keepN hk7) (hW.2.1 c) hcntk (by omega)) ?_
          rintro r H8 ⟨hk8, W8, hC8⟩
          refine ⟨trivial, ?_⟩
          obtain ⟨q, hq, ho⟩ := hC.row.row
          obtain ⟨q8, hq8, ho8⟩ := hC8.row.row
          have sR := ho8.sl
          have hrl := rws_length encC_len q8
          rw [hq8.len] at hrl
          repeat (first | refine za ?_ | refine zb ?_ | refine zc ?_ | refine zh ?_ | refine zj ?_ | refine zl ?_ | refine zs ?_ | refine zt ?_ | refine zv ?_ | refine zw ?_ | refine zx ?_ | refine zy ?_ | refine zz ?_ | refine zza ?_ | refine zzb ?_ | refine zzc ?_ | refine zzd ?_ | refine zze ?_ | refine zzf ?_ | refine zzg ?_)
          refine x_append (by rfl) (by rfl) (by rfl) rfl rfl rfl (ho.keep hk8 (fun _ h => h)) sR hrl ho8.cels (rws_oneC fun x hx => by
            obtain ⟨i, hi⟩ := List.getElem?_of_mem hx
            have hil := (List.getElem?_eq_some_iff.1 hi).1
            have := hq8.len
            obtain ⟨cc, hcc⟩ : ∃ cc, ((kids c).cells (w ++ [c]))[i]? = some cc := ⟨_, List.getElem?_eq_getElem (by omega)⟩
            exact (hq8.at_ i x cc hi hcc).oneC) (by omega) rfl trivial ?_
          intro v9 H9 hap
          refine ⟨trivial, ?_⟩
          have hca := hC.app hq hs7 hk8 hq8 hC8.win hap (fun h => ho.lt h) hkne
          repeat (first | refine za ?_ | refine zb ?_ | refine zc ?_ | refine zh ?_ | refine zj ?_ | refine zl ?_ | refine zs ?_ | refine zt ?_ | refine zv ?_ | refine zw ?_ | refine zx ?_ | refine zy ?_ | refine zz ?_ | refine zza ?_ | refine zzb ?_ | refine zzc ?_ | refine zzd ?_ | refine zze ?_ | refine zzf ?_ | refine zzg ?_)
          refine nw_round (j + 1, v9) (by repeat (first | exact True.intro | refine ⟨rfl, ?_⟩)) ⟨hc, (hk7.non_trans hk8).old hap.keep (fun z hz e => by have := (hC.fresh (by have := List.length_pos_iff.2 hkne; omega)).1; have := e.1; omega), _, _, ?_, hca⟩ (by show 256 - (j + 1) < 256 - j; omega)
          show l ++ _ = [hd] ++ (allB.take (j + 1)).flatMap _
          rw [hnext, hl, List.append_assoc]
      · have hj' : j = 256 := by omega
        subst hj'
        repeat (first | refine za ?_ | refine zb ?_ | refine zc ?_ | refine zh ?_ | refine zj ?_ | refine zl ?_ | refine zs ?_ | refine zt ?_ | refine zv ?_ | refine zw ?_ | refine zx ?_ | refine zy ?_ | refine zz ?_ | refine zza ?_ | refine zzb ?_ | refine zzc ?_ | refine zzd ?_ | refine zze ?_ | refine zzf ?_ | refine zzg ?_)
        have e : l = (BT.node own kids).cells w := by
          rw [hl, hhd]
          show _ = _ :: allB.flatMap fun b => (kids b).cells (w ++ [b])
          have : allB.take 256 = allB := List.take_of_length_le (by unfold allB; rw [List.length_map, List.length_range]; exact Nat.le_refl _)
          rw [this]
          rfl
        subst e
        exact cw_ret1 rfl rfl ⟨hk7, W, hC⟩

theorem BT.nil_of_count {t : BT} {w : Bytes} (h : t.Wf w) (hc : t.count = 0) : t = .nil := by
  cases t with
  | nil => rfl
  | shelf ps => exact absurd (List.length_eq_zero_iff.1 hc) h.2.1
  | node own kids => have := h.2.2; omega
theorem tree_Shape {G : Role} {H : Heap} {b most : Nat} {t : BT} (hB : Bu G H b most t) (hc : t.count ≤ 5000) (hm : most ≤ 1000000) : Ret Try.prog 30 [ptr b 0] H (fun v H' => Keep Non H H' ∧ ∃ W, Cls H.size H' W v (t.cells [])) := by
  have hsz := hB.size
  obtain ⟨K, L, mb, vr, r1, r2, r3, r4, r5, r6⟩ := id hB.row
  have c2 : cel H b 2 = some vr := by rw [r1.cel]; rfl
  refine ret_of Try.func30 rfl rfl rfl rfl ?_
  intro w0
  repeat (first | refine za ?_ | refine zb ?_ | refine zj ?_ | refine zs ?_ | refine zt ?_ | refine zx ?_ | refine zy ?_ | refine zz ?_ | refine zzc ?_ | refine zzd ?_ | refine zzf ?_ | refine zzg ?_)
  refine x_call rfl rfl rfl trivial (tree_Len hB) ?_
  rintro _ _ ⟨rfl, rfl⟩
  refine ⟨trivial, ?_⟩
  repeat (first | refine za ?_ | refine zb ?_ | refine zj ?_ | refine zs ?_ | refine zt ?_ | refine zx ?_ | refine zy ?_ | refine zz ?_ | refine zzc ?_ | refine zzd ?_ | refine zzf ?_ | refine zzg ?_)
  refine cw_cond rfl (fun h1 => ?_) (fun h1 => ?_) <;> (try simp at h1)
  · have h0 : t.count = 0 := by omega
    have := BT.nil_of_count hB.wf h0
    subst this
    repeat (first | refine za ?_ | refine zb ?_ | refine zj ?_ | refine zs ?_ | refine zt ?_ | refine zx ?_ | refine zy ?_ | refine zz ?_ | refine zzc ?_ | refine zzd ?_ | refine zzf ?_ | refine zzg ?_)
    exact cw_ret1 rfl rfl ⟨Keep.refl _ _, fun _ => False, ⟨Rw.nil _ _ _ _, fun _ h => h.elim, fun h => by simp [sc] at h⟩⟩
  · rcases r3 with ⟨e, _⟩ | ⟨rb, rfl, hT⟩
    · rw [e] at h1; exact absurd rfl h1
    · repeat (first | refine za ?_ | refine zb ?_ | refine zj ?_ | refine zs ?_ | refine zt ?_ | refine zx ?_ | refine zy ?_ | refine zz ?_ | refine zzc ?_ | refine zzd ?_ | refine zzf ?_ | refine zzg ?_)
      refine x_load rfl rfl (hpmt (c2)) rfl trivial ?_
      repeat (first | refine za ?_ | refine zb ?_ | refine zj ?_ | refine zs ?_ | refine zt ?_ | refine zx ?_ | refine zy ?_ | refine zz ?_ | refine zzc ?_ | refine zzd ?_ | refine zzf ?_ | refine zzg ?_)
      refine x_call rfl rfl rfl trivial (burst_cells t hT hB.wf hc (by omega)) ?_
      rintro v H1 ⟨hk1, W, hC⟩
      refine ⟨trivial, ?_⟩
      repeat (first | refine za ?_ | refine zb ?_ | refine zj ?_ | refine zs ?_ | refine zt ?_ | refine zx ?_ | refine zy ?_ | refine zz ?_ | refine zzc ?_ | refine zzd ?_ | refine zzf ?_ | refine zzg ?_)
      exact cw_ret1 rfl rfl ⟨hk1, W, hC⟩
end Go.Proofs.Ytaloblomncjgkaa.X
