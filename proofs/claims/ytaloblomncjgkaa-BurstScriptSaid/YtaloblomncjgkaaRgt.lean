/- Chapter 11's document: a burst trie's cells; chapter 15's statements: is a tree right? -/
import Derived.Test.YtaloblomncjgkaaKrd
import Derived.Test.YtaloblomncjgkaaRdb
import Derived.Test.YtaloblomncjgkaaCls2
import Derived.Test.YtaloblomncjgkaaDuo
namespace Go.Proofs.Ytaloblomncjgkaa.X
open Go Go.Proofs
set_option linter.unusedVariables false
set_option linter.unusedSimpArgs false
set_option maxRecDepth 10000
set_option maxHeartbeats 4000000

theorem ref11_All {l : List Cel} {vc : Value} {B0 : Nat} {H : Heap} (hll : l.length ≤ 1000000) (hml : manys l ≤ 1000000) (hC : CR B0 H vc l) (hB : B0 ≤ H.size) : Ret Try.prog 70 [.int .i64 4, vc] H (ReadV B0 (readAll l) H) := by
  have sC := hC.sl
  have cC := sC.cap
  obtain ⟨R, hR⟩ : ∃ R, R = readAll l := ⟨_, rfl⟩
  rw [← hR]
  refine ret_of Try.func70 rfl rfl rfl rfl ?_
  intro w0
  repeat (first | refine za ?_ | refine zb ?_ | refine zj ?_ | refine zl ?_ | refine zm ?_ | refine zn ?_ | refine zo ?_ | refine zt ?_ | refine zu ?_ | refine zx ?_ | refine zy ?_ | refine zz ?_ | refine zza ?_ | refine zzb ?_ | refine zzc ?_ | refine zzd ?_ | refine zzf ?_ | refine zzg ?_)
  refine x_alloc rfl rfl trivial ?_
  intro H1 hn1
  refine ⟨trivial, ?_⟩
  have hs1 := hn1.size
  have hk1 := hn1.keep
  have hB4 : Blk H1 H.size zR := hn1.blk
  repeat (first | refine za ?_ | refine zb ?_ | refine zj ?_ | refine zl ?_ | refine zm ?_ | refine zn ?_ | refine zo ?_ | refine zt ?_ | refine zu ?_ | refine zx ?_ | refine zy ?_ | refine zz ?_ | refine zza ?_ | refine zzb ?_ | refine zzc ?_ | refine zzd ?_ | refine zzf ?_ | refine zzg ?_)
  refine cw_cond rfl (fun h0 => ?_) (fun h0 => ?_) <;> (try simp at h0)
  · have hl0 : l = [] := by first | exact h0 | exact List.length_eq_zero_iff.1 (by omega)
    have hRz : R = { ok := true } := by rw [hR]; unfold readAll; rw [if_pos hl0]
    repeat (first | refine za ?_ | refine zb ?_ | refine zj ?_ | refine zl ?_ | refine zm ?_ | refine zn ?_ | refine zo ?_ | refine zt ?_ | refine zu ?_ | refine zx ?_ | refine zy ?_ | refine zz ?_ | refine zza ?_ | refine zzb ?_ | refine zzc ?_ | refine zzd ?_ | refine zzf ?_ | refine zzg ?_)
    refine x_build (cs := [.slice none 0 0, .int .i64 0, .int .i64 0, .bool true]) rfl rfl rfl (ocp_cons rfl ocp_nil) rfl trivial ?_
    refine x_stores rfl rfl rfl rfl (by simp [oneC, Value.oneCell']) hB4 (by simp [zR]) trivial ?_
    intro Hz hBz hkz hsz
    refine ⟨trivial, ?_⟩
    repeat (first | refine za ?_ | refine zb ?_ | refine zj ?_ | refine zl ?_ | refine zm ?_ | refine zn ?_ | refine zo ?_ | refine zt ?_ | refine zu ?_ | refine zx ?_ | refine zy ?_ | refine zz ?_ | refine zza ?_ | refine zzb ?_ | refine zzc ?_ | refine zzd ?_ | refine zzf ?_ | refine zzg ?_)
    exact cw_retc rfl rfl rfl (hBz.cels 0 4 (by simp [putL, zR])) ⟨keep_at hk1 hkz (Nat.le_refl _), .slice none 0 0, by rw [hRz]; rfl, by rw [hRz]; exact RdV.nil _ _ _⟩
  · have hl0 : l ≠ [] := fun e => by rw [e] at h0; simp at h0
    unfold readAll at hR
    rw [if_neg hl0] at hR
    repeat (first | refine za ?_ | refine zb ?_ | refine zj ?_ | refine zl ?_ | refine zm ?_ | refine zn ?_ | refine zo ?_ | refine zt ?_ | refine zu ?_ | refine zx ?_ | refine zy ?_ | refine zz ?_ | refine zza ?_ | refine zzb ?_ | refine zzc ?_ | refine zzd ?_ | refine zzf ?_ | refine zzg ?_)
    refine x_build (cs := [.slice none 0 0, .int .i64 0, .int .i64 0, .bool false]) rfl rfl rfl ocp_nil rfl trivial ?_
    refine x_alloc rfl rfl trivial ?_
    intro H2 hn2
    refine ⟨trivial, ?_⟩
    refine x_stores rfl rfl rfl rfl (by simp [oneC, Value.oneCell']) hn2.blk (by simp) trivial ?_
    intro H3 hB5 hk3 hs3
    refine ⟨trivial, ?_⟩
    have hs2 := hn2.size
    have hk03 : Keep Non H H3 := keep_at (hn2.old hk1) hk3 (by omega)
    have hk13 : Keep Non H1 H3 := keep_at hn2.keep hk3 (Nat.le_refl _)
    have hB43 := hB4.keep hk13 (fun h => h)
    have hs03 := hk03.size
    repeat (first | refine za ?_ | refine zb ?_ | refine zj ?_ | refine zl ?_ | refine zm ?_ | refine zn ?_ | refine zo ?_ | refine zt ?_ | refine zu ?_ | refine zx ?_ | refine zy ?_ | refine zz ?_ | refine zza ?_ | refine zzb ?_ | refine zzc ?_ | refine zzd ?_ | refine zzf ?_ | refine zzg ?_)
    refine x_call rfl rfl rfl trivial (ref11_Burst hll hml (l.length + 1) (i := 0) (by omega) (by omega) (Nat.le_refl _) (CR.keepN hC hk03) (Bs.nil H3) (by omega)) ?_
    rintro _ H4 ⟨hk4, v, rfl, hV⟩
    refine ⟨trivial, ?_⟩
    generalize readB (l.length + 1) l 0 [] = r at hR hV ⊢
    have hov := isSl_oneC hV.ps.sl
    have hB54 := hB5.keep hk4 (fun h => h)
    have hB44 := hB43.keep hk4 (fun h => h)
    repeat (first | refine za ?_ | refine zb ?_ | refine zj ?_ | refine zl ?_ | refine zm ?_ | refine zn ?_ | refine zo ?_ | refine zt ?_ | refine zu ?_ | refine zx ?_ | refine zy ?_ | refine zz ?_ | refine zza ?_ | refine zzb ?_ | refine zzc ?_ | refine zzd ?_ | refine zzf ?_ | refine zzg ?_)
    refine x_stores rfl rfl rfl rfl (oc_cons hov (oc_cons rfl (oc_cons rfl (oc_cons rfl oc_nil)))) hB54 (by simp [putL]) trivial ?_
    intro H5 hB55 hk5 hs5
    refine ⟨trivial, ?_⟩
    have hk05 : Keep Non H H5 := keep_at (hk03.non_trans hk4) hk5 (by omega)
    have hB45 := hB44.keep hk5 (fun e => by have e : H.size = H1.size := e; omega)
    have hV5 := hV.keep hk5 (fun hc e => by have := hV.fresh hc; have e : sb v = H1.size := e; omega) (fun z hz e => by have e : z = H1.size := e; omega)
    have g1 : cel H5 H1.size 1 = some (.int .i64 r.next) := by rw [hB55.cel]; rfl
    have g3 : cel H5 H1.size 3 = some (.bool r.ok) := by rw [hB55.cel]; rfl
    repeat (first | refine za ?_ | refine zb ?_ | refine zj ?_ | refine zl ?_ | refine zm ?_ | refine zn ?_ | refine zo ?_ | refine zt ?_ | refine zu ?_ | refine zx ?_ | refine zy ?_ | refine zz ?_ | refine zza ?_ | refine zzb ?_ | refine zzc ?_ | refine zzd ?_ | refine zzf ?_ | refine zzg ?_)
    refine x_load rfl rfl (hpmt (g3)) rfl trivial ?_
    repeat (first | refine za ?_ | refine zb ?_ | refine zj ?_ | refine zl ?_ | refine zm ?_ | refine zn ?_ | refine zo ?_ | refine zt ?_ | refine zu ?_ | refine zx ?_ | refine zy ?_ | refine zz ?_ | refine zza ?_ | refine zzb ?_ | refine zzc ?_ | refine zzd ?_ | refine zzf ?_ | refine zzg ?_)
    refine x_split 38 rfl (fun g5 => ?_) (fun g5 => ?_) <;> (try simp at g5)
    · rw [if_neg (fun h => by rw [h.1] at g5; cases g5)] at hR
      repeat (first | refine za ?_ | refine zb ?_ | refine zj ?_ | refine zl ?_ | refine zm ?_ | refine zn ?_ | refine zo ?_ | refine zt ?_ | refine zu ?_ | refine zx ?_ | refine zy ?_ | refine zz ?_ | refine zza ?_ | refine zzb ?_ | refine zzc ?_ | refine zzd ?_ | refine zzf ?_ | refine zzg ?_)
      refine x_build (cs := [.slice none 0 0, .int .i64 0, .int .i64 0, .bool false]) rfl rfl rfl ocp_nil rfl trivial ?_
      refine x_stores rfl rfl rfl rfl (by simp [oneC, Value.oneCell']) (hB45) (by simp [zR]) trivial ?_
      intro Hz hBz hkz hsz
      refine ⟨trivial, ?_⟩
      repeat (first | refine za ?_ | refine zb ?_ | refine zj ?_ | refine zl ?_ | refine zm ?_ | refine zn ?_ | refine zo ?_ | refine zt ?_ | refine zu ?_ | refine zx ?_ | refine zy ?_ | refine zz ?_ | refine zza ?_ | refine zzb ?_ | refine zzc ?_ | refine zzd ?_ | refine zzf ?_ | refine zzg ?_)
      exact cw_retc rfl rfl rfl (hBz.cels 0 4 (by simp [putL, zR])) ⟨keep_at (hk05) hkz (Nat.le_refl _), .slice none 0 0, by rw [hR]; rfl, by rw [hR]; exact RdV.nil _ _ _⟩
    · repeat (first | refine za ?_ | refine zb ?_ | refine zj ?_ | refine zl ?_ | refine zm ?_ | refine zn ?_ | refine zo ?_ | refine zt ?_ | refine zu ?_ | refine zx ?_ | refine zy ?_ | refine zz ?_ | refine zza ?_ | refine zzb ?_ | refine zzc ?_ | refine zzd ?_ | refine zzf ?_ | refine zzg ?_)
      refine x_load rfl rfl (hpmt (g1)) rfl trivial ?_
      repeat (first | refine za ?_ | refine zb ?_ | refine zj ?_ | refine zl ?_ | refine zm ?_ | refine zn ?_ | refine zo ?_ | refine zt ?_ | refine zu ?_ | refine zx ?_ | refine zy ?_ | refine zz ?_ | refine zza ?_ | refine zzb ?_ | refine zzc ?_ | refine zzd ?_ | refine zzf ?_ | refine zzg ?_)
      refine cw_cond rfl (fun g6 => ?_) (fun g6 => ?_) <;> (try simp at g6)
      · rw [if_neg (fun h => by omega)] at hR
        repeat (first | refine za ?_ | refine zb ?_ | refine zj ?_ | refine zl ?_ | refine zm ?_ | refine zn ?_ | refine zo ?_ | refine zt ?_ | refine zu ?_ | refine zx ?_ | refine zy ?_ | refine zz ?_ | refine zza ?_ | refine zzb ?_ | refine zzc ?_ | refine zzd ?_ | refine zzf ?_ | refine zzg ?_)
        refine x_build (cs := [.slice none 0 0, .int .i64 0, .int .i64 0, .bool false]) rfl rfl rfl ocp_nil rfl trivial ?_
        refine x_stores rfl rfl rfl rfl (by simp [oneC, Value.oneCell']) (hB45) (by simp [zR]) trivial ?_
        intro Hz hBz hkz hsz
        refine ⟨trivial, ?_⟩
        repeat (first | refine za ?_ | refine zb ?_ | refine zj ?_ | refine zl ?_ | refine zm ?_ | refine zn ?_ | refine zo ?_ | refine zt ?_ | refine zu ?_ | refine zx ?_ | refine zy ?_ | refine zz ?_ | refine zza ?_ | refine zzb ?_ | refine zzc ?_ | refine zzd ?_ | refine zzf ?_ | refine zzg ?_)
        exact cw_retc rfl rfl rfl (hBz.cels 0 4 (by simp [putL, zR])) ⟨keep_at (hk05) hkz (Nat.le_refl _), .slice none 0 0, by rw [hR]; rfl, by rw [hR]; exact RdV.nil _ _ _⟩
      · rw [if_pos ⟨g5, by omega⟩] at hR
        repeat (first | refine za ?_ | refine zb ?_ | refine zj ?_ | refine zl ?_ | refine zm ?_ | refine zn ?_ | refine zo ?_ | refine zt ?_ | refine zu ?_ | refine zx ?_ | refine zy ?_ | refine zz ?_ | refine zza ?_ | refine zzb ?_ | refine zzc ?_ | refine zzd ?_ | refine zzf ?_ | refine zzg ?_)
        refine x_loads (cs := [v, .int .i64 r.next, .int .i64 r.deep, .bool r.ok]) rfl rfl rfl (hpmt (hB55.cels 0 4 (by simp [putL]))) rfl trivial ?_
        refine x_stores rfl rfl rfl rfl (oc_cons hov (oc_cons rfl (oc_cons rfl (oc_cons rfl oc_nil)))) hB45 (by simp [zR]) trivial ?_
        intro H6 hB6 hk6 hs6
        refine ⟨trivial, ?_⟩
        repeat (first | refine za ?_ | refine zb ?_ | refine zj ?_ | refine zl ?_ | refine zm ?_ | refine zn ?_ | refine zo ?_ | refine zt ?_ | refine zu ?_ | refine zx ?_ | refine zy ?_ | refine zz ?_ | refine zza ?_ | refine zzb ?_ | refine zzc ?_ | refine zzd ?_ | refine zzf ?_ | refine zzg ?_)
        refine cw_retc rfl rfl rfl (hB6.cels 0 4 (by simp [putL, zR])) ⟨keep_at hk05 hk6 (Nat.le_refl _), v, by rw [hR]; rfl, ?_⟩
        rw [hR]
        exact (hV5.mono (by omega)).keep hk6 (fun hc e => by have := hV5.fresh hc; have e : sb v = H.size := e; omega) (fun z hz e => by have e : z = H.size := e; omega)
theorem law_right {G : Role} {H : Heap} {b most c : Nat} {t : BT} (hB : Bu G H b most t) (hc : t.count ≤ 5000) (hm : most ≤ 100000) (hM : Mp H c (t.pairs [])) : Ret Try.prog 38 [ptr b 0, ptr c 0] H (fun v H' => Keep Non H H' ∧ v = .bool true) := by
  have hsz := hB.size
  have hln := hB.len
  refine ret_of Try.func38 rfl rfl rfl rfl ?_
  intro w0
  repeat (first | refine za ?_ | refine zb ?_ | refine zj ?_ | refine zl ?_ | refine zm ?_ | refine zn ?_ | refine zs ?_ | refine zt ?_ | refine zu ?_ | refine zx ?_ | refine zy ?_ | refine zz ?_ | refine zzd ?_)
  refine x_call rfl rfl rfl trivial (tree_Shape hB hc (by omega)) ?_
  rintro vc H1 ⟨hk1, W, hC⟩
  refine ⟨trivial, ?_⟩
  have hcl := BT.cells_len t []
  have hcm := BT.cells_many t []
  have hra := readAll_cells hB.wf
  have hCR : CR H1.size H1 vc (t.cells []) := hC.row.rd.mono fun _ _ h => h.step (Keep.refl Non _) (fun _ _ h => h) (fun z hz => (hC.win z hz).2)
  generalize t.cells [] = l at *
  have sC := hCR.sl
  repeat (first | refine za ?_ | refine zb ?_ | refine zj ?_ | refine zl ?_ | refine zm ?_ | refine zn ?_ | refine zs ?_ | refine zt ?_ | refine zu ?_ | refine zx ?_ | refine zy ?_ | refine zz ?_ | refine zzd ?_)
  refine x_call rfl rfl rfl trivial (ref11_All (by omega) (by omega) hCR (Nat.le_refl _)) ?_
  rintro _ H2 ⟨hk2, v, rfl, hV⟩
  refine ⟨trivial, ?_⟩
  generalize readAll l = r at hra hV ⊢
  obtain ⟨hra1, hra2⟩ := hra
  have hov := isSl_oneC hV.ps.sl
  repeat (first | refine za ?_ | refine zb ?_ | refine zj ?_ | refine zl ?_ | refine zm ?_ | refine zn ?_ | refine zs ?_ | refine zt ?_ | refine zu ?_ | refine zx ?_ | refine zy ?_ | refine zz ?_ | refine zzd ?_)
  refine x_alloc rfl rfl trivial ?_
  intro H3 hn3
  refine ⟨trivial, ?_⟩
  refine x_stores rfl rfl rfl rfl (oc_cons hov (oc_cons rfl (oc_cons rfl (oc_cons rfl oc_nil)))) hn3.blk (by simp) trivial ?_
  intro H4 hB4 hk4 hs4
  refine ⟨trivial, ?_⟩
  have hk24 : Keep Non H2 H4 := keep_at hn3.keep hk4 (Nat.le_refl _)
  have hk04 : Keep Non H H4 := (hk1.non_trans hk2).non_trans hk24
  have g0 : cel H4 H2.size 0 = some v := by rw [hB4.cel]; rfl
  have g3 : cel H4 H2.size 3 = some (.bool r.ok) := by rw [hB4.cel]; rfl
  have hP := hV.ps.keepN hk24
  rw [hra2] at hP
  obtain ⟨u, hBu, hPu⟩ := hM.row
  have c0 : cel H4 c 0 = some u := by rw [(hBu.keep hk04 (fun h => h)).cel]; rfl
  have hPu4 := hPu.keepN hk04
  have sU := hPu4.sl
  have hB4' := hB.keepN hk04
  have hkr := Keep.refl Non H4
  repeat (first | refine za ?_ | refine zb ?_ | refine zj ?_ | refine zl ?_ | refine zm ?_ | refine zn ?_ | refine zs ?_ | refine zt ?_ | refine zu ?_ | refine zx ?_ | refine zy ?_ | refine zz ?_)
  refine cw_held (fun _ => Keep Non H4) ⟨[9, 13, 20, 22, 27], [(1, 0), (4, 0), (8, 0), (31, 0)]⟩ (.op 0 (.op 1 (.op 2 (.op 3 (.op 4 (.op 5 (.op 6 (.op 7 (.op 8 (.op 9 (.op 10 (.op 11 (.op 12 (.op 14 (.op 15 (.op 13 (.op 16 (.op 17 (.op 18 (.op 19 (.op 21 (.op 20 (.op 22 (.op 23 (.op 24 (.op 25 (.op 26 (.op 28 (.op 29 (.op 30 (.op 31 (.op 32 (.op 27 (.op 33 (.op 34 (.op 35 (.nil))))))))))))))))))))))))))))))))))))) panicOk_body mixed (by kernel_rfl) ?_
  repeat (first | refine za ?_ | refine zb ?_ | refine zj ?_ | refine zl ?_ | refine zm ?_ | refine zn ?_ | refine zs ?_ | refine zt ?_ | refine zu ?_ | refine zx ?_ | refine zy ?_ | refine zz ?_ | refine zzd ?_)
  rw [hra1] at g3
  refine x_load rfl rfl (hpmk rfl (fun _ hk => hk.cel g3 (fun h => h))) rfl (okq_load rfl rfl (by assumption)) ?_
  repeat (first | refine za ?_ | refine zb ?_ | refine zj ?_ | refine zl ?_ | refine zm ?_ | refine zn ?_ | refine zs ?_ | refine zt ?_ | refine zu ?_ | refine zx ?_ | refine zy ?_ | refine zz ?_ | refine zzd ?_)
  refine x_load rfl rfl (hpmk rfl (fun _ hk => hk.cel g0 (fun h => h))) rfl (okq_load rfl rfl (by assumption)) ?_
  repeat (first | refine za ?_ | refine zb ?_ | refine zj ?_ | refine zl ?_ | refine zm ?_ | refine zn ?_ | refine zs ?_ | refine zt ?_ | refine zu ?_ | refine zx ?_ | refine zy ?_ | refine zz ?_ | refine zzd ?_)
  refine x_load rfl rfl (hpmk rfl (fun _ hk => hk.cel c0 (fun h => h))) rfl (okq_load rfl rfl (by assumption)) ?_
  repeat (first | refine za ?_ | refine zb ?_ | refine zj ?_ | refine zl ?_ | refine zm ?_ | refine zn ?_ | refine zs ?_ | refine zt ?_ | refine zu ?_ | refine zx ?_ | refine zy ?_ | refine zz ?_ | refine zzd ?_)
  refine x_call rfl rfl rfl ⟨rfl, rfl⟩ (law_SamePairs hP hPu4) ?_
  rintro _ _ ⟨rfl, rfl⟩
  refine ⟨okm_keep (Keep.refl Non H4) (fun _ _ h => h), ?_⟩
  rw [decide_eq_true rfl]
  repeat (first | refine za ?_ | refine zb ?_ | refine zj ?_ | refine zl ?_ | refine zm ?_ | refine zn ?_ | refine zs ?_ | refine zt ?_ | refine zu ?_ | refine zx ?_ | refine zy ?_ | refine zz ?_ | refine zzd ?_)
  refine x_call rfl rfl rfl ⟨rfl, rfl⟩ (tree_Live hB4') ?_
  rintro _ _ ⟨rfl, rfl⟩
  refine ⟨okm_keep (Keep.refl Non H4) (fun _ _ h => h), ?_⟩
  rw [← hcl]
  repeat (first | refine za ?_ | refine zb ?_ | refine zj ?_ | refine zl ?_ | refine zm ?_ | refine zn ?_ | refine zs ?_ | refine zt ?_ | refine zu ?_ | refine zx ?_ | refine zy ?_ | refine zz ?_ | refine zzd ?_)
  refine x_true 29 rfl (by simp) ?_
  repeat (first | refine za ?_ | refine zb ?_ | refine zj ?_ | refine zl ?_ | refine zm ?_ | refine zn ?_ | refine zs ?_ | refine zt ?_ | refine zu ?_ | refine zx ?_ | refine zy ?_ | refine zz ?_ | refine zzd ?_)
  refine x_call rfl rfl rfl ⟨rfl, rfl⟩ (tree_Live hB4') ?_
  rintro _ _ ⟨rfl, rfl⟩
  refine ⟨okm_keep (Keep.refl Non H4) (fun _ _ h => h), ?_⟩
  repeat (first | refine za ?_ | refine zb ?_ | refine zj ?_ | refine zl ?_ | refine zm ?_ | refine zn ?_ | refine zs ?_ | refine zt ?_ | refine zu ?_ | refine zx ?_ | refine zy ?_ | refine zz ?_ | refine zzd ?_)
  refine x_call rfl rfl rfl ⟨rfl, rfl⟩ (tree_Most hB4') ?_
  rintro _ _ ⟨rfl, rfl⟩
  refine ⟨okm_keep (Keep.refl Non H4) (fun _ _ h => h), ?_⟩
  repeat (first | refine za ?_ | refine zb ?_ | refine zj ?_ | refine zl ?_ | refine zm ?_ | refine zn ?_ | refine zs ?_ | refine zt ?_ | refine zu ?_ | refine zx ?_ | refine zy ?_ | refine zz ?_ | refine zzd ?_)
  refine x_true 36 rfl (by simp; omega) ?_
  repeat (first | refine za ?_ | refine zb ?_ | refine zj ?_ | refine zl ?_ | refine zm ?_ | refine zn ?_ | refine zs ?_ | refine zt ?_ | refine zu ?_ | refine zx ?_ | refine zy ?_ | refine zz ?_ | refine zzd ?_)
  refine x_load rfl rfl (hpmk rfl (fun _ hk => hk.cel c0 (fun h => h))) rfl (okq_load rfl rfl (by assumption)) ?_
  repeat (first | refine za ?_ | refine zb ?_ | refine zj ?_ | refine zl ?_ | refine zm ?_ | refine zn ?_ | refine zs ?_ | refine zt ?_ | refine zu ?_ | refine zx ?_ | refine zy ?_ | refine zz ?_ | refine zzd ?_)
  refine x_call rfl rfl rfl ⟨rfl, rfl⟩ (tree_Len hB4') ?_
  rintro _ _ ⟨rfl, rfl⟩
  refine ⟨okm_keep (Keep.refl Non H4) (fun _ _ h => h), ?_⟩
  rw [← hln]
  repeat (first | refine za ?_ | refine zb ?_ | refine zj ?_ | refine zl ?_ | refine zm ?_ | refine zn ?_ | refine zs ?_ | refine zt ?_ | refine zu ?_ | refine zx ?_ | refine zy ?_ | refine zz ?_ | refine zzd ?_)
  repeat (first | refine za ?_ | refine zb ?_ | refine zj ?_ | refine zl ?_ | refine zm ?_ | refine zn ?_ | refine zs ?_ | refine zt ?_ | refine zu ?_ | refine zx ?_ | refine zy ?_ | refine zz ?_ | refine zzd ?_)
  exact cw_ret1 rfl rfl ⟨hk04, by simp⟩
end Go.Proofs.Ytaloblomncjgkaa.X
