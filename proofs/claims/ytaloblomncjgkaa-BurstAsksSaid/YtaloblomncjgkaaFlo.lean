/- The package model and chapter 7's answer: floor and ceiling, the longest beginning, what there is of none. -/
import Derived.Test.YtaloblomncjgkaaLng
namespace Go.Proofs.Ytaloblomncjgkaa.X
open Go Go.Proofs
set_option linter.unusedVariables false
set_option linter.unusedSimpArgs false
set_option maxRecDepth 10000
set_option maxHeartbeats 2000000

def floorM (l : List Pr) (k : Bytes) : Option Pr := selI l (if there l k then (rank l k : Int) else (rank l k : Int) - 1)
def ceilM (l : List Pr) (k : Bytes) : Option Pr := selI l (rank l k : Int)
section mo
variable {K : Role} {b : Nat} {vk : Value} {l : List Pr} {k : Bytes} {H : Heap}
theorem model_Floor (hM : Mo K H b l) (hr : rises l = true) (hl : l.length ≤ 100000) (hkl : ∀ p ∈ l, p.1.length ≤ 1000000) (hK : Bs H vk k) :
    Ret Try.prog 56 [ptr b 0, vk] H (fun v H' => PairA H H' (floorM l k) v) := by
  have hle := rank_le l k
  refine ret_of Try.func56 rfl rfl rfl rfl ?_
  intro w0
  repeat (first | refine za ?_ | refine zb ?_ | refine zd ?_ | refine zj ?_ | refine zo ?_ | refine zr ?_ | refine zx ?_ | refine zy ?_ | refine zz ?_ | refine zzc ?_ | refine zzd ?_ | refine zzf ?_ | refine zzg ?_)
  refine x_alloc rfl rfl trivial ?_
  intro H1 hn1
  refine ⟨trivial, ?_⟩
  repeat (first | refine za ?_ | refine zb ?_ | refine zd ?_ | refine zj ?_ | refine zo ?_ | refine zr ?_ | refine zx ?_ | refine zy ?_ | refine zz ?_ | refine zzc ?_ | refine zzd ?_ | refine zzf ?_ | refine zzg ?_)
  refine x_call rfl rfl rfl trivial (model_find (hM.keepN hn1.keep) hr hl (hK.keepN hn1.keep)) ?_
  rintro _ H2 ⟨hkq, rfl⟩
  refine ⟨trivial, ?_⟩
  have hM2 := (hM.keepN hn1.keep).keepN hkq
  unfold floorM
  rcases hth : there l k with _ | _
  · simp only [Bool.false_eq_true, if_false]
    repeat (first | refine za ?_ | refine zb ?_ | refine zd ?_ | refine zj ?_ | refine zo ?_ | refine zr ?_ | refine zx ?_ | refine zy ?_ | refine zz ?_ | refine zzc ?_ | refine zzd ?_ | refine zzf ?_ | refine zzg ?_)
    refine x_call rfl rfl rfl trivial (model_Select ((rank l k : Int) - 1) hM2 (by omega) hkl) ?_
    rintro _ Hp ⟨hkp, cp, rfl, hcp, hfp⟩
    refine ⟨trivial, ?_⟩
    repeat (first | refine za ?_ | refine zb ?_ | refine zd ?_ | refine zj ?_ | refine zo ?_ | refine zr ?_ | refine zx ?_ | refine zy ?_ | refine zz ?_ | refine zzc ?_ | refine zzd ?_ | refine zzf ?_ | refine zzg ?_)
    refine x_stores rfl rfl rfl rfl (two_oneC' (isSl_oneC hcp.sl)) ((hn1.blk.keep hkq (fun h => h)).keep hkp (fun h => h)) (by simp) trivial ?_
    intro Hr hBr hkr hsr
    refine ⟨trivial, ?_⟩
    have hsn := hn1.size
    have hsq := hkq.size
    repeat (first | refine za ?_ | refine zb ?_ | refine zd ?_ | refine zj ?_ | refine zo ?_ | refine zr ?_ | refine zx ?_ | refine zy ?_ | refine zz ?_ | refine zzc ?_ | refine zzd ?_ | refine zzf ?_ | refine zzg ?_)
    exact cw_retc2 rfl rfl rfl rfl (hBr.cels 0 2 (by simp [putL])) ⟨keep_at ((hn1.keep.non_trans hkq).non_trans hkp) hkr (Nat.le_refl _), cp, rfl, hcp.keep hkr (fun hc e => by have := hfp hc; omega), fun hc => by have := hfp hc; omega⟩
  · simp only [if_true]
    repeat (first | refine za ?_ | refine zb ?_ | refine zd ?_ | refine zj ?_ | refine zo ?_ | refine zr ?_ | refine zx ?_ | refine zy ?_ | refine zz ?_ | refine zzc ?_ | refine zzd ?_ | refine zzf ?_ | refine zzg ?_)
    refine x_call rfl rfl rfl trivial (model_Select (rank l k : Int) hM2 (by omega) hkl) ?_
    rintro _ Hp ⟨hkp, cp, rfl, hcp, hfp⟩
    refine ⟨trivial, ?_⟩
    repeat (first | refine za ?_ | refine zb ?_ | refine zd ?_ | refine zj ?_ | refine zo ?_ | refine zr ?_ | refine zx ?_ | refine zy ?_ | refine zz ?_ | refine zzc ?_ | refine zzd ?_ | refine zzf ?_ | refine zzg ?_)
    refine x_stores rfl rfl rfl rfl (two_oneC' (isSl_oneC hcp.sl)) ((hn1.blk.keep hkq (fun h => h)).keep hkp (fun h => h)) (by simp) trivial ?_
    intro Hr hBr hkr hsr
    refine ⟨trivial, ?_⟩
    have hsn := hn1.size
    have hsq := hkq.size
    repeat (first | refine za ?_ | refine zb ?_ | refine zd ?_ | refine zj ?_ | refine zo ?_ | refine zr ?_ | refine zx ?_ | refine zy ?_ | refine zz ?_ | refine zzc ?_ | refine zzd ?_ | refine zzf ?_ | refine zzg ?_)
    exact cw_retc2 rfl rfl rfl rfl (hBr.cels 0 2 (by simp [putL])) ⟨keep_at ((hn1.keep.non_trans hkq).non_trans hkp) hkr (Nat.le_refl _), cp, rfl, hcp.keep hkr (fun hc e => by have := hfp hc; omega), fun hc => by have := hfp hc; omega⟩
theorem model_Ceil (hM : Mo K H b l) (hr : rises l = true) (hl : l.length ≤ 100000) (hkl : ∀ p ∈ l, p.1.length ≤ 1000000) (hK : Bs H vk k) :
    Ret Try.prog 57 [ptr b 0, vk] H (fun v H' => PairA H H' (ceilM l k) v) := by
  refine ret_of Try.func57 rfl rfl rfl rfl ?_
  intro w0
  repeat (first | refine za ?_ | refine zb ?_ | refine zr ?_ | refine zx ?_ | refine zy ?_ | refine zz ?_ | refine zzd ?_)
  refine x_alloc rfl rfl trivial ?_
  intro H1 hn1
  refine ⟨trivial, ?_⟩
  repeat (first | refine za ?_ | refine zb ?_ | refine zr ?_ | refine zx ?_ | refine zy ?_ | refine zz ?_ | refine zzd ?_)
  refine x_call rfl rfl rfl trivial (model_find (hM.keepN hn1.keep) hr hl (hK.keepN hn1.keep)) ?_
  rintro _ H2 ⟨hkq, rfl⟩
  refine ⟨trivial, ?_⟩
  have hM2 := (hM.keepN hn1.keep).keepN hkq
  repeat (first | refine za ?_ | refine zb ?_ | refine zr ?_ | refine zx ?_ | refine zy ?_ | refine zz ?_ | refine zzd ?_)
  refine x_call rfl rfl rfl trivial (model_Select (rank l k : Int) hM2 (by omega) hkl) ?_
  rintro _ Hp ⟨hkp, cp, rfl, hcp, hfp⟩
  refine ⟨trivial, ?_⟩
  repeat (first | refine za ?_ | refine zb ?_ | refine zr ?_ | refine zx ?_ | refine zy ?_ | refine zz ?_ | refine zzd ?_)
  refine x_stores rfl rfl rfl rfl (two_oneC' (isSl_oneC hcp.sl)) ((hn1.blk.keep hkq (fun h => h)).keep hkp (fun h => h)) (by simp) trivial ?_
  intro Hr hBr hkr hsr
  refine ⟨trivial, ?_⟩
  have hsn := hn1.size
  have hsq := hkq.size
  repeat (first | refine za ?_ | refine zb ?_ | refine zr ?_ | refine zx ?_ | refine zy ?_ | refine zz ?_ | refine zzd ?_)
  exact cw_retc2 rfl rfl rfl rfl (hBr.cels 0 2 (by simp [putL])) ⟨keep_at ((hn1.keep.non_trans hkq).non_trans hkp) hkr (Nat.le_refl _), cp, rfl, hcp.keep hkr (fun hc e => by have := hfp hc; omega), fun hc => by have := hfp hc; omega⟩
end mo
/-! of none -/
section none
variable {vk : Value} {H : Heap}
theorem model_findN : Ret Try.prog 82 [.pointer none, vk] H (fun r H' => H = H' ∧ r = .tuple #[.int .i64 0, .bool false]) := by
  refine ret_of Try.func82 rfl rfl rfl rfl ?_
  intro w0
  repeat (first | refine za ?_ | refine zb ?_ | refine zg ?_ | refine zj ?_ | refine zr ?_ | refine zs ?_ | refine zt ?_ | refine zx ?_ | refine zy ?_ | refine zz ?_ | refine zzc ?_ | refine zzd ?_ | refine zzf ?_ | refine zzg ?_)
  exact cw_ret2 rfl rfl rfl ⟨rfl, rfl⟩
theorem model_LenN : Ret Try.prog 55 [.pointer none] H (fun r H' => H = H' ∧ r = .int .i64 0) := by
  refine ret_of Try.func55 rfl rfl rfl rfl ?_
  intro w0
  repeat (first | refine za ?_ | refine zb ?_ | refine zg ?_ | refine zj ?_ | refine zl ?_ | refine zs ?_ | refine zt ?_ | refine zx ?_ | refine zy ?_ | refine zz ?_ | refine zzc ?_ | refine zzd ?_ | refine zzf ?_ | refine zzg ?_)
  exact cw_ret1 rfl rfl ⟨rfl, rfl⟩
theorem model_GetN : Ret Try.prog 48 [.pointer none, vk] H (fun r H' => H = H' ∧ r = .tuple #[.int .u64 0, .bool false]) := by
  refine ret_of Try.func48 rfl rfl rfl rfl ?_
  intro w0
  repeat (first | refine za ?_ | refine zb ?_ | refine zo ?_ | refine zr ?_ | refine zs ?_ | refine zt ?_ | refine zv ?_ | refine zw ?_ | refine zx ?_ | refine zy ?_ | refine zz ?_ | refine zzc ?_ | refine zzd ?_ | refine zzf ?_ | refine zzg ?_)
  refine x_call rfl rfl rfl trivial (model_findN) ?_
  rintro _ _ ⟨rfl, rfl⟩
  refine ⟨trivial, ?_⟩
  repeat (first | refine za ?_ | refine zb ?_ | refine zo ?_ | refine zr ?_ | refine zs ?_ | refine zt ?_ | refine zv ?_ | refine zw ?_ | refine zx ?_ | refine zy ?_ | refine zz ?_ | refine zzc ?_ | refine zzd ?_ | refine zzf ?_ | refine zzg ?_)
  exact cw_ret2 rfl rfl rfl ⟨rfl, rfl⟩
theorem model_RankN : Ret Try.prog 59 [.pointer none, vk] H (fun r H' => H = H' ∧ r = .int .i64 0) := by
  refine ret_of Try.func59 rfl rfl rfl rfl ?_
  intro w0
  repeat (first | refine za ?_ | refine zb ?_ | refine zr ?_ | refine zx ?_ | refine zy ?_ | refine zz ?_ | refine zzd ?_)
  refine x_call rfl rfl rfl trivial (model_findN) ?_
  rintro _ _ ⟨rfl, rfl⟩
  refine ⟨trivial, ?_⟩
  repeat (first | refine za ?_ | refine zb ?_ | refine zr ?_ | refine zx ?_ | refine zy ?_ | refine zz ?_ | refine zzd ?_)
  exact cw_ret1 rfl rfl ⟨rfl, rfl⟩
theorem model_SelectN (i : Int) : Ret Try.prog 58 [.pointer none, .int .i64 i] H (fun v H' => PairA H H' none v) := by
  refine ret_of Try.func58 rfl rfl rfl rfl ?_
  intro w0
  repeat (first | refine za ?_ | refine zb ?_ | refine zj ?_ | refine zm ?_ | refine zn ?_ | refine zs ?_ | refine zt ?_ | refine zu ?_ | refine zv ?_ | refine zw ?_ | refine zx ?_ | refine zy ?_ | refine zz ?_ | refine zzc ?_ | refine zzd ?_ | refine zzf ?_ | refine zzg ?_)
  refine x_alloc rfl rfl trivial ?_
  intro H1 hn1
  refine ⟨trivial, ?_⟩
  repeat (first | refine za ?_ | refine zb ?_ | refine zj ?_ | refine zm ?_ | refine zn ?_ | refine zs ?_ | refine zt ?_ | refine zu ?_ | refine zv ?_ | refine zw ?_ | refine zx ?_ | refine zy ?_ | refine zz ?_ | refine zzc ?_ | refine zzd ?_ | refine zzf ?_ | refine zzg ?_)
  refine x_split 8 rfl (fun h1 => ?_) (fun h1 => ?_) <;> (try simp at h1)
  · repeat (first | refine za ?_ | refine zb ?_ | refine zj ?_ | refine zm ?_ | refine zn ?_ | refine zs ?_ | refine zt ?_ | refine zu ?_ | refine zv ?_ | refine zw ?_ | refine zx ?_ | refine zy ?_ | refine zz ?_ | refine zzc ?_ | refine zzd ?_ | refine zzf ?_ | refine zzg ?_)
    refine x_build (cs := [.slice none 0 0, .int .u64 0]) rfl rfl rfl (by simp) rfl trivial ?_
    refine x_stores rfl rfl rfl rfl (by simp [oneC, Value.oneCell']) hn1.blk (by simp) trivial ?_
    intro H2 hB2 hk2 hs2
    refine ⟨trivial, ?_⟩
    repeat (first | refine za ?_ | refine zb ?_ | refine zj ?_ | refine zm ?_ | refine zn ?_ | refine zs ?_ | refine zt ?_ | refine zu ?_ | refine zv ?_ | refine zw ?_ | refine zx ?_ | refine zy ?_ | refine zz ?_ | refine zzc ?_ | refine zzd ?_ | refine zzf ?_ | refine zzg ?_)
    exact cw_retc2 rfl rfl rfl rfl (hB2.cels 0 2 (by simp [putL])) ⟨keep_at hn1.keep hk2 (Nat.le_refl _), _, rfl, Own.nil _ _, Fresh.nil _⟩
  · repeat (first | refine za ?_ | refine zb ?_ | refine zj ?_ | refine zm ?_ | refine zn ?_ | refine zs ?_ | refine zt ?_ | refine zu ?_ | refine zv ?_ | refine zw ?_ | refine zx ?_ | refine zy ?_ | refine zz ?_ | refine zzc ?_ | refine zzd ?_ | refine zzf ?_ | refine zzg ?_)
    refine x_call rfl rfl rfl trivial (model_LenN) ?_
    rintro _ _ ⟨rfl, rfl⟩
    refine ⟨trivial, ?_⟩
    repeat (first | refine za ?_ | refine zb ?_ | refine zj ?_ | refine zm ?_ | refine zn ?_ | refine zs ?_ | refine zt ?_ | refine zu ?_ | refine zv ?_ | refine zw ?_ | refine zx ?_ | refine zy ?_ | refine zz ?_ | refine zzc ?_ | refine zzd ?_ | refine zzf ?_ | refine zzg ?_)
    refine cw_cond rfl (fun h2 => ?_) (fun h2 => ?_) <;> (try simp at h2)
    · repeat (first | refine za ?_ | refine zb ?_ | refine zj ?_ | refine zm ?_ | refine zn ?_ | refine zs ?_ | refine zt ?_ | refine zu ?_ | refine zv ?_ | refine zw ?_ | refine zx ?_ | refine zy ?_ | refine zz ?_ | refine zzc ?_ | refine zzd ?_ | refine zzf ?_ | refine zzg ?_)
      refine x_build (cs := [.slice none 0 0, .int .u64 0]) rfl rfl rfl (by simp) rfl trivial ?_
      refine x_stores rfl rfl rfl rfl (by simp [oneC, Value.oneCell']) hn1.blk (by simp) trivial ?_
      intro H2 hB2 hk2 hs2
      refine ⟨trivial, ?_⟩
      repeat (first | refine za ?_ | refine zb ?_ | refine zj ?_ | refine zm ?_ | refine zn ?_ | refine zs ?_ | refine zt ?_ | refine zu ?_ | refine zv ?_ | refine zw ?_ | refine zx ?_ | refine zy ?_ | refine zz ?_ | refine zzc ?_ | refine zzd ?_ | refine zzf ?_ | refine zzg ?_)
      exact cw_retc2 rfl rfl rfl rfl (hB2.cels 0 2 (by simp [putL])) ⟨keep_at hn1.keep hk2 (Nat.le_refl _), _, rfl, Own.nil _ _, Fresh.nil _⟩
    · exfalso; omega
theorem model_FloorN : Ret Try.prog 56 [.pointer none, vk] H (fun v H' => PairA H H' none v) := by
  refine ret_of Try.func56 rfl rfl rfl rfl ?_
  intro w0
  repeat (first | refine za ?_ | refine zb ?_ | refine zd ?_ | refine zj ?_ | refine zo ?_ | refine zr ?_ | refine zx ?_ | refine zy ?_ | refine zz ?_ | refine zzc ?_ | refine zzd ?_ | refine zzf ?_ | refine zzg ?_)
  refine x_alloc rfl rfl trivial ?_
  intro H1 hn1
  refine ⟨trivial, ?_⟩
  repeat (first | refine za ?_ | refine zb ?_ | refine zd ?_ | refine zj ?_ | refine zo ?_ | refine zr ?_ | refine zx ?_ | refine zy ?_ | refine zz ?_ | refine zzc ?_ | refine zzd ?_ | refine zzf ?_ | refine zzg ?_)
  refine x_call rfl rfl rfl trivial model_findN ?_
  rintro _ _ ⟨rfl, rfl⟩
  refine ⟨trivial, ?_⟩
  have hkq := Keep.refl Non H1
  repeat (first | refine za ?_ | refine zb ?_ | refine zd ?_ | refine zj ?_ | refine zo ?_ | refine zr ?_ | refine zx ?_ | refine zy ?_ | refine zz ?_ | refine zzc ?_ | refine zzd ?_ | refine zzf ?_ | refine zzg ?_)
  refine x_call rfl rfl rfl trivial (model_SelectN _) ?_
  rintro _ Hp ⟨hkp, cp, rfl, hcp, hfp⟩
  refine ⟨trivial, ?_⟩
  repeat (first | refine za ?_ | refine zb ?_ | refine zd ?_ | refine zj ?_ | refine zo ?_ | refine zr ?_ | refine zx ?_ | refine zy ?_ | refine zz ?_ | refine zzc ?_ | refine zzd ?_ | refine zzf ?_ | refine zzg ?_)
  refine x_stores rfl rfl rfl rfl (two_oneC' (isSl_oneC hcp.sl)) ((hn1.blk.keep hkq (fun h => h)).keep hkp (fun h => h)) (by simp) trivial ?_
  intro Hr hBr hkr hsr
  refine ⟨trivial, ?_⟩
  have hsn := hn1.size
  have hsq := hkq.size
  repeat (first | refine za ?_ | refine zb ?_ | refine zd ?_ | refine zj ?_ | refine zo ?_ | refine zr ?_ | refine zx ?_ | refine zy ?_ | refine zz ?_ | refine zzc ?_ | refine zzd ?_ | refine zzf ?_ | refine zzg ?_)
  exact cw_retc2 rfl rfl rfl rfl (hBr.cels 0 2 (by simp [putL])) ⟨keep_at ((hn1.keep.non_trans hkq).non_trans hkp) hkr (Nat.le_refl _), cp, rfl, hcp.keep hkr (fun hc e => by have := hfp hc; omega), fun hc => by have := hfp hc; omega⟩
theorem model_FromN (most : Int) : Ret Try.prog 54 [.pointer none, vk, .int .i64 most] H (fun v H' => H = H' ∧ v = .slice none 0 0) := by
  refine ret_of Try.func54 rfl rfl rfl rfl ?_
  intro w0
  repeat (first | refine za ?_ | refine zb ?_ | refine zc ?_ | refine zj ?_ | refine zl ?_ | refine zm ?_ | refine zn ?_ | refine zr ?_ | refine zs ?_ | refine zt ?_ | refine zu ?_ | refine zv ?_ | refine zw ?_ | refine zx ?_ | refine zy ?_ | refine zz ?_ | refine zza ?_ | refine zzb ?_ | refine zzc ?_ | refine zzd ?_ | refine zze ?_ | refine zzf ?_ | refine zzg ?_)
  refine x_call rfl rfl rfl trivial (model_findN) ?_
  rintro _ _ ⟨rfl, rfl⟩
  refine ⟨trivial, ?_⟩
  repeat (first | refine za ?_ | refine zb ?_ | refine zc ?_ | refine zj ?_ | refine zl ?_ | refine zm ?_ | refine zn ?_ | refine zr ?_ | refine zs ?_ | refine zt ?_ | refine zu ?_ | refine zv ?_ | refine zw ?_ | refine zx ?_ | refine zy ?_ | refine zz ?_ | refine zza ?_ | refine zzb ?_ | refine zzc ?_ | refine zzd ?_ | refine zze ?_ | refine zzf ?_ | refine zzg ?_)
  refine cw_loop (fun _ : Unit => [(0, .pointer none), (2, .int .i64 most), (7, .int .i64 0), (9, .slice none 0 0)]) (fun _ H' => H = H') (fun _ => 0) () (by repeat (first | exact True.intro | refine ⟨rfl, ?_⟩)) rfl ?_
  rintro _ _ rfl
  have s0 : IsSl (.slice none 0 0) 0 := isSl_nil
  repeat (first | refine za ?_ | refine zb ?_ | refine zc ?_ | refine zj ?_ | refine zl ?_ | refine zm ?_ | refine zn ?_ | refine zr ?_ | refine zs ?_ | refine zt ?_ | refine zu ?_ | refine zv ?_ | refine zw ?_ | refine zx ?_ | refine zy ?_ | refine zz ?_ | refine zza ?_ | refine zzb ?_ | refine zzc ?_ | refine zzd ?_ | refine zze ?_ | refine zzf ?_ | refine zzg ?_)
  refine x_call rfl rfl rfl trivial (model_LenN) ?_
  rintro _ _ ⟨rfl, rfl⟩
  refine ⟨trivial, ?_⟩
  repeat (first | refine za ?_ | refine zb ?_ | refine zc ?_ | refine zj ?_ | refine zl ?_ | refine zm ?_ | refine zn ?_ | refine zr ?_ | refine zs ?_ | refine zt ?_ | refine zu ?_ | refine zv ?_ | refine zw ?_ | refine zx ?_ | refine zy ?_ | refine zz ?_ | refine zza ?_ | refine zzb ?_ | refine zzc ?_ | refine zzd ?_ | refine zze ?_ | refine zzf ?_ | refine zzg ?_)
  exact cw_ret1 rfl rfl ⟨rfl, rfl⟩
end none
end Go.Proofs.Ytaloblomncjgkaa.X
