/- Chapter 15's statements: BurstAsks. -/
import Derived.Test.YtaloblomncjgkaaRgt
import Derived.Test.YtaloblomncjgkaaDne
import Derived.Test.YtaloblomncjgkaaR7
namespace Go.Proofs.Ytaloblomncjgkaa.X
open Go Go.Proofs
set_option linter.unusedVariables false
set_option linter.unusedSimpArgs false
set_option maxRecDepth 10000
set_option maxHeartbeats 4000000

theorem walk_BurstAsks {va vk : Value} {l1 : List Pr} {k : Bytes} {n : Int} {H : Heap} (hA : Ps H va l1) (hK : Bs H vk k) : Ret Try.prog 7 [va, vk, .int .i64 n] H (Yes H) := by
  have sA := hA.sl
  have cA := sA.cap
  have sK := hK.sl
  have cK := sK.cap
  refine ret_of Try.func7 rfl rfl rfl rfl ?_
  intro w0
  repeat (first | refine za ?_ | refine zb ?_ | refine zc ?_ | refine zg ?_ | refine zj ?_ | refine zl ?_ | refine zm ?_ | refine zn ?_ | refine zo ?_ | refine zs ?_ | refine zt ?_ | refine zu ?_ | refine zv ?_ | refine zw ?_ | refine zx ?_ | refine zy ?_ | refine zz ?_ | refine zza ?_ | refine zzb ?_ | refine zzc ?_ | refine zzd ?_ | refine zze ?_ | refine zzf ?_ | refine zzg ?_)
  refine x_call rfl rfl rfl trivial (law_GreatPairs 40 30 (by omega) hA) ?_
  rintro _ _ ⟨rfl, b1, rfl, h1⟩
  refine ⟨trivial, ?_⟩
  repeat (first | refine za ?_ | refine zb ?_ | refine zc ?_ | refine zg ?_ | refine zj ?_ | refine zl ?_ | refine zm ?_ | refine zn ?_ | refine zo ?_ | refine zs ?_ | refine zt ?_ | refine zu ?_ | refine zv ?_ | refine zw ?_ | refine zx ?_ | refine zy ?_ | refine zz ?_ | refine zza ?_ | refine zzb ?_ | refine zzc ?_ | refine zzd ?_ | refine zze ?_ | refine zzf ?_ | refine zzg ?_)
  cases b1 with
  | true =>
    repeat (first | refine za ?_ | refine zb ?_ | refine zc ?_ | refine zg ?_ | refine zj ?_ | refine zl ?_ | refine zm ?_ | refine zn ?_ | refine zo ?_ | refine zs ?_ | refine zt ?_ | refine zu ?_ | refine zv ?_ | refine zw ?_ | refine zx ?_ | refine zy ?_ | refine zz ?_ | refine zza ?_ | refine zzb ?_ | refine zzc ?_ | refine zzd ?_ | refine zze ?_ | refine zzf ?_ | refine zzg ?_)
    refine x_call rfl rfl rfl trivial (awake15 _) ?_
    rintro _ Hz ⟨rfl, hkz⟩
    refine ⟨trivial, ?_⟩
    repeat (first | refine za ?_ | refine zb ?_ | refine zc ?_ | refine zg ?_ | refine zj ?_ | refine zl ?_ | refine zm ?_ | refine zn ?_ | refine zo ?_ | refine zs ?_ | refine zt ?_ | refine zu ?_ | refine zv ?_ | refine zw ?_ | refine zx ?_ | refine zy ?_ | refine zz ?_ | refine zza ?_ | refine zzb ?_ | refine zzc ?_ | refine zzd ?_ | refine zze ?_ | refine zzf ?_ | refine zzg ?_)
    exact cw_ret1 rfl rfl ⟨rfl, (Keep.refl Non H).non_trans hkz⟩
  | false =>
  obtain ⟨hl1, hk1⟩ := h1 rfl
  repeat (first | refine za ?_ | refine zb ?_ | refine zc ?_ | refine zg ?_ | refine zj ?_ | refine zl ?_ | refine zm ?_ | refine zn ?_ | refine zo ?_ | refine zs ?_ | refine zt ?_ | refine zu ?_ | refine zv ?_ | refine zw ?_ | refine zx ?_ | refine zy ?_ | refine zz ?_ | refine zza ?_ | refine zzb ?_ | refine zzc ?_ | refine zzd ?_ | refine zze ?_ | refine zzf ?_ | refine zzg ?_)
  refine cw_cond rfl (fun hk40 => ?_) (fun hk40 => ?_) <;> (try simp at hk40)
  · repeat (first | refine za ?_ | refine zb ?_ | refine zc ?_ | refine zg ?_ | refine zj ?_ | refine zl ?_ | refine zm ?_ | refine zn ?_ | refine zo ?_ | refine zs ?_ | refine zt ?_ | refine zu ?_ | refine zv ?_ | refine zw ?_ | refine zx ?_ | refine zy ?_ | refine zz ?_ | refine zza ?_ | refine zzb ?_ | refine zzc ?_ | refine zzd ?_ | refine zze ?_ | refine zzf ?_ | refine zzg ?_)
    refine x_call rfl rfl rfl trivial (awake15 _) ?_
    rintro _ Hz ⟨rfl, hkz⟩
    refine ⟨trivial, ?_⟩
    repeat (first | refine za ?_ | refine zb ?_ | refine zc ?_ | refine zg ?_ | refine zj ?_ | refine zl ?_ | refine zm ?_ | refine zn ?_ | refine zo ?_ | refine zs ?_ | refine zt ?_ | refine zu ?_ | refine zv ?_ | refine zw ?_ | refine zx ?_ | refine zy ?_ | refine zz ?_ | refine zza ?_ | refine zzb ?_ | refine zzc ?_ | refine zzd ?_ | refine zze ?_ | refine zzf ?_ | refine zzg ?_)
    exact cw_ret1 rfl rfl ⟨rfl, (Keep.refl Non H).non_trans hkz⟩
  · have hr0 := newM_rises l1
    have hkm := newM_keys hk1
    have hlm := newM_length l1
    repeat (first | refine za ?_ | refine zb ?_ | refine zc ?_ | refine zg ?_ | refine zj ?_ | refine zl ?_ | refine zm ?_ | refine zn ?_ | refine zo ?_ | refine zs ?_ | refine zt ?_ | refine zu ?_ | refine zv ?_ | refine zw ?_ | refine zx ?_ | refine zy ?_ | refine zz ?_ | refine zza ?_ | refine zzb ?_ | refine zzc ?_ | refine zzd ?_ | refine zze ?_ | refine zzf ?_ | refine zzg ?_)
    refine x_call rfl rfl rfl trivial (ref_NewW hA (by omega) (fun p hp => by have := hk1 p hp; omega)) ?_
    rintro _ H1 ⟨hk01, c, W, rfl, hFW, hM1⟩
    refine ⟨trivial, ?_⟩
    generalize newM l1 = l0 at *
    have hs1 := hk01.size
    repeat (first | refine za ?_ | refine zb ?_ | refine zc ?_ | refine zg ?_ | refine zj ?_ | refine zl ?_ | refine zm ?_ | refine zn ?_ | refine zo ?_ | refine zs ?_ | refine zt ?_ | refine zu ?_ | refine zv ?_ | refine zw ?_ | refine zx ?_ | refine zy ?_ | refine zz ?_ | refine zza ?_ | refine zzb ?_ | refine zzc ?_ | refine zzd ?_ | refine zze ?_ | refine zzf ?_ | refine zzg ?_)
    refine x_call rfl rfl rfl trivial (tree_New 5000) ?_
    rintro v1 H2 h1
    refine ⟨trivial, ?_⟩
    rcases h1 with ⟨h1, _⟩ | ⟨_, _, hk12, b, G1, rfl, hF1, hB1⟩
    · omega
    have hB1 : Bu G1 H2 b 5000 .nil := hB1
    have hD2 : Duo H G1 W H2 b 5000 c .nil l0 := ⟨⟨hB1, hF1.mono hs1, hk01.non_trans hk12⟩, hM1.keepN hk12, hFW, fun x hx => hM1.win.off (hF1 x hx)⟩
    have hnd := needs_bd hkm
    have hnd2 : l0.length * (2 * 30 + 12) ≤ 40 * 72 := Nat.mul_le_mul (by omega) (Nat.le_refl _)
    have hmy : mayC l0 = 0 := by
      unfold mayC
      rw [longs_no (fun p hp => by have := hkm p hp; omega), hr0]
      rfl
    have hO := mayC_ok hmy
    have hbs := buildT_size hO
    obtain ⟨u, hBu, hPu, _⟩ := id hD2.ref.row
    have c0 : cel H2 c 0 = some u := by rw [hBu.cel]; rfl
    have hPs := hPu.ps (fun _ _ h => h.1)
    repeat (first | refine za ?_ | refine zb ?_ | refine zc ?_ | refine zg ?_ | refine zj ?_ | refine zl ?_ | refine zm ?_ | refine zn ?_ | refine zo ?_ | refine zs ?_ | refine zt ?_ | refine zu ?_ | refine zv ?_ | refine zw ?_ | refine zx ?_ | refine zy ?_ | refine zz ?_ | refine zza ?_ | refine zzb ?_ | refine zzc ?_ | refine zzd ?_ | refine zze ?_ | refine zzf ?_ | refine zzg ?_)
    refine x_load rfl rfl (hpmt (c0)) rfl trivial ?_
    repeat (first | refine za ?_ | refine zb ?_ | refine zc ?_ | refine zg ?_ | refine zj ?_ | refine zl ?_ | refine zm ?_ | refine zn ?_ | refine zo ?_ | refine zs ?_ | refine zt ?_ | refine zu ?_ | refine zv ?_ | refine zw ?_ | refine zx ?_ | refine zy ?_ | refine zz ?_ | refine zza ?_ | refine zzb ?_ | refine zzc ?_ | refine zzd ?_ | refine zze ?_ | refine zzf ?_ | refine zzg ?_)
    refine x_call rfl rfl rfl trivial (law_Copied hPs (by omega) (fun p hp => by have := hkm p hp; omega)) ?_
    rintro vin H3 ⟨hk3, hPin⟩
    refine ⟨trivial, ?_⟩
    have hD3 := hD2.keepN hk3
    have hs3 := hk3.size
    repeat (first | refine za ?_ | refine zb ?_ | refine zc ?_ | refine zg ?_ | refine zj ?_ | refine zl ?_ | refine zm ?_ | refine zn ?_ | refine zo ?_ | refine zs ?_ | refine zt ?_ | refine zu ?_ | refine zv ?_ | refine zw ?_ | refine zx ?_ | refine zy ?_ | refine zz ?_ | refine zza ?_ | refine zzb ?_ | refine zzc ?_ | refine zzd ?_ | refine zze ?_ | refine zzf ?_ | refine zzg ?_)
    refine x_call rfl rfl rfl trivial (tree_Build hD3.mine.bu hPin.ps (by omega) (fun _ => by omega)) ?_
    rintro r4 H4 h4
    refine ⟨trivial, ?_⟩
    cases h4 with
    | bad h e keep => exact absurd hmy h
    | full h hm e keep => omega
    | ok h hm e hk34 G4 hE4 hB4 =>
      subst e
      have hD4 := hD3.turnG hk34 hE4 (hD3.mine.turn hk34 hE4 hB4)
      have hG1 : ∀ z, H2.size ≤ z → G1 z = 0 := fun z hz => hD2.mine.bu.gin.off hz
      have hP4 := hPin.toS.keep hk34 (fun z e h => h (hG1 z e.1))
      obtain ⟨u4, hBu4, hPu4, _⟩ := id hD4.ref.row
      have c4 : cel H4 c 0 = some u4 := by rw [hBu4.cel]; rfl
      have hPs4 := hPu4.ps (fun _ _ h => h.1)
      repeat (first | refine za ?_ | refine zb ?_ | refine zc ?_ | refine zg ?_ | refine zj ?_ | refine zl ?_ | refine zm ?_ | refine zn ?_ | refine zo ?_ | refine zs ?_ | refine zt ?_ | refine zu ?_ | refine zv ?_ | refine zw ?_ | refine zx ?_ | refine zy ?_ | refine zz ?_ | refine zza ?_ | refine zzb ?_ | refine zzc ?_ | refine zzd ?_ | refine zze ?_ | refine zzf ?_ | refine zzg ?_)
      refine x_load rfl rfl (hpmt (c4)) rfl trivial ?_
      repeat (first | refine za ?_ | refine zb ?_ | refine zc ?_ | refine zg ?_ | refine zj ?_ | refine zl ?_ | refine zm ?_ | refine zn ?_ | refine zo ?_ | refine zs ?_ | refine zt ?_ | refine zu ?_ | refine zv ?_ | refine zw ?_ | refine zx ?_ | refine zy ?_ | refine zz ?_ | refine zza ?_ | refine zzb ?_ | refine zzc ?_ | refine zzd ?_ | refine zze ?_ | refine zzf ?_ | refine zzg ?_)
      refine x_call rfl rfl rfl trivial (law_SamePairs hP4.ps hPs4) ?_
      rintro _ _ ⟨rfl, rfl⟩
      refine ⟨trivial, ?_⟩
      rw [decide_eq_true rfl]
      repeat (first | refine za ?_ | refine zb ?_ | refine zc ?_ | refine zg ?_ | refine zj ?_ | refine zl ?_ | refine zm ?_ | refine zn ?_ | refine zo ?_ | refine zs ?_ | refine zt ?_ | refine zu ?_ | refine zv ?_ | refine zw ?_ | refine zx ?_ | refine zy ?_ | refine zz ?_ | refine zza ?_ | refine zzb ?_ | refine zzc ?_ | refine zzd ?_ | refine zze ?_ | refine zzf ?_ | refine zzg ?_)
      refine x_call rfl rfl rfl trivial (law_OverPairsS hP4 (by omega) (fun p hp => by have := hkm p hp; omega)) ?_
      rintro _ H5 ⟨rfl, hk45⟩
      refine ⟨trivial, ?_⟩
      have hh0 := hD2.mine.keep.size
      have hD5 := hD4.keep hk45 (fun z e => ⟨hE4.zero e.2 (hG1 z e.1), hD2.ref.win.off e.1, by have := e.1; omega⟩)
      have htp : (buildT l0).pairs [] = l0 := buildT_pairs hO
      generalize buildT l0 = t at *
      have hct : t.count ≤ 40 := by have := hD5.mine.bu.len; rw [htp] at this; omega
      have hMp : Mp H5 c (t.pairs []) := by rw [htp]; exact hD5.ref.mp
      have hB5 := hD5.mine.bu
      have kn5 := hD5.mine.keep
      clear hD2 hD3 hD4 hB4 hk34 hE4 hBu hPu c0 hPs hPin hP4 hBu4 hPu4 c4 hPs4 hk45
      repeat (first | refine za ?_ | refine zb ?_ | refine zc ?_ | refine zg ?_ | refine zj ?_ | refine zl ?_ | refine zm ?_ | refine zn ?_ | refine zo ?_ | refine zs ?_ | refine zt ?_ | refine zu ?_ | refine zv ?_ | refine zw ?_ | refine zx ?_ | refine zy ?_ | refine zz ?_ | refine zza ?_ | refine zzb ?_ | refine zzc ?_ | refine zzd ?_ | refine zze ?_ | refine zzf ?_ | refine zzg ?_)
      refine x_call rfl rfl rfl trivial (law_right hB5 (by omega) (by omega) hMp) ?_
      rintro _ H6 ⟨hq6, rfl⟩
      refine ⟨trivial, ?_⟩
      repeat (first | refine za ?_ | refine zb ?_ | refine zc ?_ | refine zg ?_ | refine zj ?_ | refine zl ?_ | refine zm ?_ | refine zn ?_ | refine zo ?_ | refine zs ?_ | refine zt ?_ | refine zu ?_ | refine zv ?_ | refine zw ?_ | refine zx ?_ | refine zy ?_ | refine zz ?_ | refine zza ?_ | refine zzb ?_ | refine zzc ?_ | refine zzd ?_ | refine zze ?_ | refine zzf ?_ | refine zzg ?_)
      refine x_call rfl rfl rfl trivial (law_asked (n := n) (hB5.keepN hq6) (by omega) (hMp.keepN hq6) (hK.keepN (kn5.non_trans hq6)) (by omega)) ?_
      rintro _ H7 ⟨rfl, hq7⟩
      refine ⟨trivial, ?_⟩
      have ks7 := hq6.non_trans hq7
      repeat (first | refine za ?_ | refine zb ?_ | refine zc ?_ | refine zg ?_ | refine zj ?_ | refine zl ?_ | refine zm ?_ | refine zn ?_ | refine zo ?_ | refine zs ?_ | refine zt ?_ | refine zu ?_ | refine zv ?_ | refine zw ?_ | refine zx ?_ | refine zy ?_ | refine zz ?_ | refine zza ?_ | refine zzb ?_ | refine zzc ?_ | refine zzd ?_ | refine zze ?_ | refine zzf ?_ | refine zzg ?_)
      refine x_call rfl rfl rfl trivial (law_asked (n := 2) (hB5.keepN ks7) (by omega) (hMp.keepN ks7) (Bs.nil H7) (by simp)) ?_
      rintro _ H8 ⟨rfl, hq8⟩
      refine ⟨trivial, ?_⟩
      have ks8 := ks7.non_trans hq8
      repeat (first | refine za ?_ | refine zb ?_ | refine zc ?_ | refine zg ?_ | refine zj ?_ | refine zl ?_ | refine zm ?_ | refine zn ?_ | refine zo ?_ | refine zs ?_ | refine zt ?_ | refine zu ?_ | refine zv ?_ | refine zw ?_ | refine zx ?_ | refine zy ?_ | refine zz ?_ | refine zza ?_ | refine zzb ?_ | refine zzc ?_ | refine zzd ?_ | refine zze ?_ | refine zzf ?_ | refine zzg ?_)
      refine x_buildSlice rfl rfl rfl rfl (by omega) (by simp [oneC, Value.oneCell']) rfl trivial ?_
      intro H9a hn9
      refine ⟨trivial, ?_⟩
      repeat (first | refine za ?_ | refine zb ?_ | refine zc ?_ | refine zg ?_ | refine zj ?_ | refine zl ?_ | refine zm ?_ | refine zn ?_ | refine zo ?_ | refine zs ?_ | refine zt ?_ | refine zu ?_ | refine zv ?_ | refine zw ?_ | refine zx ?_ | refine zy ?_ | refine zz ?_ | refine zza ?_ | refine zzb ?_ | refine zzc ?_ | refine zzd ?_ | refine zze ?_ | refine zzf ?_ | refine zzg ?_)
      refine x_mark (l := bvs [255, 255, 255]) rfl rfl hn9.raw rfl trivial ?_
      intro H9 hB9 hK9 hs9
      refine ⟨trivial, ?_⟩
      have hb9 := konst_bs hB9 (by decide)
      have hk9 := keep_at hn9.keep hK9 (Nat.le_refl _)
      have ks9 := ks8.non_trans hk9
      repeat (first | refine za ?_ | refine zb ?_ | refine zc ?_ | refine zg ?_ | refine zj ?_ | refine zl ?_ | refine zm ?_ | refine zn ?_ | refine zo ?_ | refine zs ?_ | refine zt ?_ | refine zu ?_ | refine zv ?_ | refine zw ?_ | refine zx ?_ | refine zy ?_ | refine zz ?_ | refine zza ?_ | refine zzb ?_ | refine zzc ?_ | refine zzd ?_ | refine zze ?_ | refine zzf ?_ | refine zzg ?_)
      refine x_call rfl rfl rfl trivial (law_asked (n := 1) (hB5.keepN ks9) (by omega) (hMp.keepN ks9) hb9 (by simp)) ?_
      rintro _ H10 ⟨rfl, hq10⟩
      refine ⟨trivial, ?_⟩
      have ks10 := ks9.non_trans hq10
      repeat (first | refine za ?_ | refine zb ?_ | refine zc ?_ | refine zg ?_ | refine zj ?_ | refine zl ?_ | refine zm ?_ | refine zn ?_ | refine zo ?_ | refine zs ?_ | refine zt ?_ | refine zu ?_ | refine zv ?_ | refine zw ?_ | refine zx ?_ | refine zy ?_ | refine zz ?_ | refine zza ?_ | refine zzb ?_ | refine zzc ?_ | refine zzd ?_ | refine zze ?_ | refine zzf ?_ | refine zzg ?_)
      refine cw_loop (fun i : Nat => [(7, ptr c 0), (8, ptr b 0), (10, .int .i64 i)]) (fun i H' => i ≤ t.count ∧ Keep Non H5 H') (fun i => t.count - i) 0 (by repeat (first | exact True.intro | refine ⟨rfl, ?_⟩)) ⟨Nat.zero_le _, ks10⟩ ?_
      rintro i H11 ⟨hi, ks11⟩
      obtain ⟨u6, hBu6, hPu6, _⟩ := id (hD5.keepN ks11).ref.row
      have c6 : cel H11 c 0 = some u6 := by rw [hBu6.cel]; rfl
      have hPs6 := hPu6.ps (fun _ _ h => h.1)
      have sU := hPs6.sl
      have hlc : l0.length = t.count := by rw [← htp]; exact hB5.len
      repeat (first | refine za ?_ | refine zb ?_ | refine zc ?_ | refine zg ?_ | refine zj ?_ | refine zl ?_ | refine zm ?_ | refine zn ?_ | refine zo ?_ | refine zs ?_ | refine zt ?_ | refine zu ?_ | refine zv ?_ | refine zw ?_ | refine zx ?_ | refine zy ?_ | refine zz ?_ | refine zza ?_ | refine zzb ?_ | refine zzc ?_ | refine zzd ?_ | refine zze ?_ | refine zzf ?_ | refine zzg ?_)
      refine x_load rfl rfl (hpmt (c6)) rfl trivial ?_
      repeat (first | refine za ?_ | refine zb ?_ | refine zc ?_ | refine zg ?_ | refine zj ?_ | refine zl ?_ | refine zm ?_ | refine zn ?_ | refine zo ?_ | refine zs ?_ | refine zt ?_ | refine zu ?_ | refine zv ?_ | refine zw ?_ | refine zx ?_ | refine zy ?_ | refine zz ?_ | refine zza ?_ | refine zzb ?_ | refine zzc ?_ | refine zzd ?_ | refine zze ?_ | refine zzf ?_ | refine zzg ?_)
      refine cw_cond rfl (fun hil => ?_) (fun hil => ?_) <;> (try simp at hil)
      · obtain ⟨p, hp⟩ := getp (l := l0) (j := i) (by omega)
        obtain ⟨kk, a1, a2, a3⟩ := hPs6.at_ i p hp
        have hpl := hkm p (List.mem_of_getElem? hp)
        repeat (first | refine za ?_ | refine zb ?_ | refine zc ?_ | refine zg ?_ | refine zj ?_ | refine zl ?_ | refine zm ?_ | refine zn ?_ | refine zo ?_ | refine zs ?_ | refine zt ?_ | refine zu ?_ | refine zv ?_ | refine zw ?_ | refine zx ?_ | refine zy ?_ | refine zz ?_ | refine zza ?_ | refine zzb ?_ | refine zzc ?_ | refine zzd ?_ | refine zze ?_ | refine zzf ?_ | refine zzg ?_)
        refine x_load rfl rfl (hpmt (c6)) rfl trivial ?_
        repeat (first | refine za ?_ | refine zb ?_ | refine zc ?_ | refine zg ?_ | refine zj ?_ | refine zl ?_ | refine zm ?_ | refine zn ?_ | refine zo ?_ | refine zs ?_ | refine zt ?_ | refine zu ?_ | refine zv ?_ | refine zw ?_ | refine zx ?_ | refine zy ?_ | refine zz ?_ | refine zza ?_ | refine zzb ?_ | refine zzc ?_ | refine zzd ?_ | refine zze ?_ | refine zzf ?_ | refine zzg ?_)
        refine x_load rfl rfl (hpmt (a1)) rfl trivial ?_
        repeat (first | refine za ?_ | refine zb ?_ | refine zc ?_ | refine zg ?_ | refine zj ?_ | refine zl ?_ | refine zm ?_ | refine zn ?_ | refine zo ?_ | refine zs ?_ | refine zt ?_ | refine zu ?_ | refine zv ?_ | refine zw ?_ | refine zx ?_ | refine zy ?_ | refine zz ?_ | refine zza ?_ | refine zzb ?_ | refine zzc ?_ | refine zzd ?_ | refine zze ?_ | refine zzf ?_ | refine zzg ?_)
        refine x_call rfl rfl rfl trivial (law_asked (n := (i : Int)) (hB5.keepN ks11) (by omega) (hMp.keepN ks11) a3 (by omega)) ?_
        rintro _ H12 ⟨rfl, hq12⟩
        refine ⟨trivial, ?_⟩
        have ks12 := ks11.non_trans hq12
        have c6' := hq12.cel c6 (fun h => h)
        have a1' := hq12.cel a1 (fun h => h)
        have a3' := a3.keepN hq12
        repeat (first | refine za ?_ | refine zb ?_ | refine zc ?_ | refine zg ?_ | refine zj ?_ | refine zl ?_ | refine zm ?_ | refine zn ?_ | refine zo ?_ | refine zs ?_ | refine zt ?_ | refine zu ?_ | refine zv ?_ | refine zw ?_ | refine zx ?_ | refine zy ?_ | refine zz ?_ | refine zza ?_ | refine zzb ?_ | refine zzc ?_ | refine zzd ?_ | refine zze ?_ | refine zzf ?_ | refine zzg ?_)
        refine x_load rfl rfl (hpmt (c6')) rfl trivial ?_
        repeat (first | refine za ?_ | refine zb ?_ | refine zc ?_ | refine zg ?_ | refine zj ?_ | refine zl ?_ | refine zm ?_ | refine zn ?_ | refine zo ?_ | refine zs ?_ | refine zt ?_ | refine zu ?_ | refine zv ?_ | refine zw ?_ | refine zx ?_ | refine zy ?_ | refine zz ?_ | refine zza ?_ | refine zzb ?_ | refine zzc ?_ | refine zzd ?_ | refine zze ?_ | refine zzf ?_ | refine zzg ?_)
        refine x_load rfl rfl (hpmt (a1')) rfl trivial ?_
        repeat (first | refine za ?_ | refine zb ?_ | refine zc ?_ | refine zg ?_ | refine zj ?_ | refine zl ?_ | refine zm ?_ | refine zn ?_ | refine zo ?_ | refine zs ?_ | refine zt ?_ | refine zu ?_ | refine zv ?_ | refine zw ?_ | refine zx ?_ | refine zy ?_ | refine zz ?_ | refine zza ?_ | refine zzb ?_ | refine zzc ?_ | refine zzd ?_ | refine zze ?_ | refine zzf ?_ | refine zzg ?_)
        refine x_append (by rfl) (by rfl) (by rfl) rfl rfl rfl (Own.nil 1 H12) (a3').sl (by rw [bvs_length, Nat.mul_one]) (a3').at_ (bvs_oneC _) (by omega) rfl trivial ?_
        intro v13 H13 hap13
        refine ⟨trivial, ?_⟩
        have hk13 := hap13.old (Fresh.nil H12) (Keep.refl _ _)
        have hf13 := hap13.fresh (Fresh.nil H12) (Nat.le_refl _)
        refine x_buildSlice rfl rfl rfl rfl (by omega) (by simp [oneC, Value.oneCell']) rfl trivial ?_
        intro H14 hn14
        refine ⟨trivial, ?_⟩
        have ho13 : Own 1 H14 v13 p.1.length (bvs p.1) := by
          have := hap13.own.keep (S := Non) hn14.keep (fun _ h => h)
          simpa using this
        refine x_append (by rfl) (by rfl) (by rfl) rfl rfl rfl ho13 (isSl_some (Nat.le_refl _) (by omega)) (m := 1) (cx := [kb 0]) rfl (hn14.blk.cels 0 1 (by simp)) (by simp [oneC, Value.oneCell']) (by omega) rfl trivial ?_
        intro v15 H15 hap15
        refine ⟨trivial, ?_⟩
        have hk1215 : Keep Non H12 H15 := hap15.old hf13 (hn14.old hk13)
        have ks15 := ks12.non_trans hk1215
        have hN15 : Bs H15 v15 (p.1 ++ [0]) := by
          have h1 : Own 1 H15 v15 (p.1 ++ [0]).length (bvs (p.1 ++ [0])) := by rw [bvs_append, List.length_append]; exact hap15.own
          exact h1.bs
        repeat (first | refine za ?_ | refine zb ?_ | refine zc ?_ | refine zg ?_ | refine zj ?_ | refine zl ?_ | refine zm ?_ | refine zn ?_ | refine zo ?_ | refine zs ?_ | refine zt ?_ | refine zu ?_ | refine zv ?_ | refine zw ?_ | refine zx ?_ | refine zy ?_ | refine zz ?_ | refine zza ?_ | refine zzb ?_ | refine zzc ?_ | refine zzd ?_ | refine zze ?_ | refine zzf ?_ | refine zzg ?_)
        refine x_call rfl rfl rfl trivial (law_asked (n := 2) (hB5.keepN ks15) (by omega) (hMp.keepN ks15) hN15 (by simp; omega)) ?_
        rintro _ H16 ⟨rfl, hq16⟩
        refine ⟨trivial, ?_⟩
        repeat (first | refine za ?_ | refine zb ?_ | refine zc ?_ | refine zg ?_ | refine zj ?_ | refine zl ?_ | refine zm ?_ | refine zn ?_ | refine zo ?_ | refine zs ?_ | refine zt ?_ | refine zu ?_ | refine zv ?_ | refine zw ?_ | refine zx ?_ | refine zy ?_ | refine zz ?_ | refine zza ?_ | refine zzb ?_ | refine zzc ?_ | refine zzd ?_ | refine zze ?_ | refine zzf ?_ | refine zzg ?_)
        exact nw_round (i + 1) (by repeat (first | exact True.intro | refine ⟨rfl, ?_⟩)) ⟨by omega, ks15.non_trans hq16⟩ (by omega)
      · repeat (first | refine za ?_ | refine zb ?_ | refine zc ?_ | refine zg ?_ | refine zj ?_ | refine zl ?_ | refine zm ?_ | refine zn ?_ | refine zo ?_ | refine zs ?_ | refine zt ?_ | refine zu ?_ | refine zv ?_ | refine zw ?_ | refine zx ?_ | refine zy ?_ | refine zz ?_ | refine zza ?_ | refine zzb ?_ | refine zzc ?_ | refine zzd ?_ | refine zze ?_ | refine zzf ?_ | refine zzg ?_)
        refine x_call rfl rfl rfl trivial (awake15 _) ?_
        rintro _ Hz ⟨rfl, hkz⟩
        refine ⟨trivial, ?_⟩
        repeat (first | refine za ?_ | refine zb ?_ | refine zc ?_ | refine zg ?_ | refine zj ?_ | refine zl ?_ | refine zm ?_ | refine zn ?_ | refine zo ?_ | refine zs ?_ | refine zt ?_ | refine zu ?_ | refine zv ?_ | refine zw ?_ | refine zx ?_ | refine zy ?_ | refine zz ?_ | refine zza ?_ | refine zzb ?_ | refine zzc ?_ | refine zzd ?_ | refine zze ?_ | refine zzf ?_ | refine zzg ?_)
        exact cw_ret1 rfl rfl ⟨rfl, ((kn5.non_trans ks11)).non_trans hkz⟩
end Go.Proofs.Ytaloblomncjgkaa.X
