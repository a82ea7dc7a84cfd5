/- Chapter 7's document: Floor, Ceil, Longest, From. -/
import Derived.Test.YtaloblomncjgkaaFlo
import Derived.Test.YtaloblomncjgkaaLng
import Derived.Test.YtaloblomncjgkaaKbo
import Derived.Test.YtaloblomncjgkaaBtr3
import Derived.Test.YtaloblomncjgkaaBys
namespace Go.Proofs.Ytaloblomncjgkaa.X
open Go Go.Proofs
set_option linter.unusedVariables false
set_option linter.unusedSimpArgs false
set_option maxRecDepth 10000
set_option maxHeartbeats 4000000

theorem Mp.keepN {H H' : Heap} {b : Nat} {l : List Pr} (h : Mp H b l) (k : Keep Non H H') : Mp H' b l := let ⟨u, h1, h2⟩ := h.row; ⟨u, h1.keep k (fun h => h), h2.keepN k⟩
section r7
variable {b : Nat} {vk : Value} {l : List Pr} {k : Bytes} {H : Heap}
theorem ref7_Floor (hM : Mp H b l) (hl : l.length ≤ 100000) (hkl : ∀ p ∈ l, p.1.length ≤ 1000000) (hK : Bs H vk k) : Ret Try.prog 72 [ptr b 0, vk] H (fun v H' => PairA H H' (floorM l k) v) := by
  have hle := rank_le l k
  refine ret_of Try.func72 rfl rfl rfl rfl ?_
  intro w0
  repeat (first | refine za ?_ | refine zb ?_ | refine zd ?_ | refine zj ?_ | refine zr ?_ | refine zx ?_ | refine zy ?_ | refine zz ?_ | refine zzc ?_ | refine zzd ?_ | refine zzf ?_ | refine zzg ?_)
  refine x_alloc rfl rfl trivial ?_
  intro H1 hn1
  refine ⟨trivial, ?_⟩
  have hkq := Keep.refl Non H1
  have hM1 := hM.keepN hn1.keep
  have hK1 := hK.keepN hn1.keep
  repeat (first | refine za ?_ | refine zb ?_ | refine zd ?_ | refine zj ?_ | refine zr ?_ | refine zx ?_ | refine zy ?_ | refine zz ?_ | refine zzc ?_ | refine zzd ?_ | refine zzf ?_ | refine zzg ?_)
  refine x_call rfl rfl rfl trivial (ref_Find hM1 hK1) ?_
  rintro _ _ ⟨rfl, rfl⟩
  refine ⟨trivial, ?_⟩
  unfold floorM
  rcases hth : there l k with _ | _
  · simp only [Bool.false_eq_true, if_false]
    repeat (first | refine za ?_ | refine zb ?_ | refine zd ?_ | refine zj ?_ | refine zr ?_ | refine zx ?_ | refine zy ?_ | refine zz ?_ | refine zzc ?_ | refine zzd ?_ | refine zzf ?_ | refine zzg ?_)
    refine x_call rfl rfl rfl trivial (ref_Select ((rank l k : Int) - 1) hM1 (by omega) hkl) ?_
    rintro _ Hp ⟨hkp, cp, rfl, hcp, hfp⟩
    refine ⟨trivial, ?_⟩
    repeat (first | refine za ?_ | refine zb ?_ | refine zd ?_ | refine zj ?_ | refine zr ?_ | refine zx ?_ | refine zy ?_ | refine zz ?_ | refine zzc ?_ | refine zzd ?_ | refine zzf ?_ | refine zzg ?_)
    refine x_stores rfl rfl rfl rfl (two_oneC' (isSl_oneC hcp.sl)) ((hn1.blk.keep hkq (fun h => h)).keep hkp (fun h => h)) (by simp) trivial ?_
    intro Hr hBr hkr hsr
    refine ⟨trivial, ?_⟩
    have hsn := hn1.size
    have hsq := hkq.size
    repeat (first | refine za ?_ | refine zb ?_ | refine zd ?_ | refine zj ?_ | refine zr ?_ | refine zx ?_ | refine zy ?_ | refine zz ?_ | refine zzc ?_ | refine zzd ?_ | refine zzf ?_ | refine zzg ?_)
    exact cw_retc2 rfl rfl rfl rfl (hBr.cels 0 2 (by simp [putL])) ⟨keep_at ((hn1.keep.non_trans hkq).non_trans hkp) hkr (Nat.le_refl _), cp, rfl, hcp.keep hkr (fun hc e => by have := hfp hc; omega), fun hc => by have := hfp hc; omega⟩
  · simp only [if_true]
    repeat (first | refine za ?_ | refine zb ?_ | refine zd ?_ | refine zj ?_ | refine zr ?_ | refine zx ?_ | refine zy ?_ | refine zz ?_ | refine zzc ?_ | refine zzd ?_ | refine zzf ?_ | refine zzg ?_)
    refine x_call rfl rfl rfl trivial (ref_Select (rank l k : Int) hM1 (by omega) hkl) ?_
    rintro _ Hp ⟨hkp, cp, rfl, hcp, hfp⟩
    refine ⟨trivial, ?_⟩
    repeat (first | refine za ?_ | refine zb ?_ | refine zd ?_ | refine zj ?_ | refine zr ?_ | refine zx ?_ | refine zy ?_ | refine zz ?_ | refine zzc ?_ | refine zzd ?_ | refine zzf ?_ | refine zzg ?_)
    refine x_stores rfl rfl rfl rfl (two_oneC' (isSl_oneC hcp.sl)) ((hn1.blk.keep hkq (fun h => h)).keep hkp (fun h => h)) (by simp) trivial ?_
    intro Hr hBr hkr hsr
    refine ⟨trivial, ?_⟩
    have hsn := hn1.size
    have hsq := hkq.size
    repeat (first | refine za ?_ | refine zb ?_ | refine zd ?_ | refine zj ?_ | refine zr ?_ | refine zx ?_ | refine zy ?_ | refine zz ?_ | refine zzc ?_ | refine zzd ?_ | refine zzf ?_ | refine zzg ?_)
    exact cw_retc2 rfl rfl rfl rfl (hBr.cels 0 2 (by simp [putL])) ⟨keep_at ((hn1.keep.non_trans hkq).non_trans hkp) hkr (Nat.le_refl _), cp, rfl, hcp.keep hkr (fun hc e => by have := hfp hc; omega), fun hc => by have := hfp hc; omega⟩
theorem ref7_Ceil (hM : Mp H b l) (hl : l.length ≤ 100000) (hkl : ∀ p ∈ l, p.1.length ≤ 1000000) (hK : Bs H vk k) : Ret Try.prog 73 [ptr b 0, vk] H (fun v H' => PairA H H' (ceilM l k) v) := by
  have hle := rank_le l k
  refine ret_of Try.func73 rfl rfl rfl rfl ?_
  intro w0
  repeat (first | refine za ?_ | refine zb ?_ | refine zr ?_ | refine zx ?_ | refine zy ?_ | refine zz ?_ | refine zzd ?_)
  refine x_alloc rfl rfl trivial ?_
  intro H1 hn1
  refine ⟨trivial, ?_⟩
  have hkq := Keep.refl Non H1
  have hM1 := hM.keepN hn1.keep
  have hK1 := hK.keepN hn1.keep
  repeat (first | refine za ?_ | refine zb ?_ | refine zr ?_ | refine zx ?_ | refine zy ?_ | refine zz ?_ | refine zzd ?_)
  refine x_call rfl rfl rfl trivial (ref_Rank hM1 hK1) ?_
  rintro _ _ ⟨rfl, rfl⟩
  refine ⟨trivial, ?_⟩
  unfold ceilM
  repeat (first | refine za ?_ | refine zb ?_ | refine zr ?_ | refine zx ?_ | refine zy ?_ | refine zz ?_ | refine zzd ?_)
  refine x_call rfl rfl rfl trivial (ref_Select (rank l k : Int) hM1 (by omega) hkl) ?_
  rintro _ Hp ⟨hkp, cp, rfl, hcp, hfp⟩
  refine ⟨trivial, ?_⟩
  repeat (first | refine za ?_ | refine zb ?_ | refine zr ?_ | refine zx ?_ | refine zy ?_ | refine zz ?_ | refine zzd ?_)
  refine x_stores rfl rfl rfl rfl (two_oneC' (isSl_oneC hcp.sl)) ((hn1.blk.keep hkq (fun h => h)).keep hkp (fun h => h)) (by simp) trivial ?_
  intro Hr hBr hkr hsr
  refine ⟨trivial, ?_⟩
  have hsn := hn1.size
  have hsq := hkq.size
  repeat (first | refine za ?_ | refine zb ?_ | refine zr ?_ | refine zx ?_ | refine zy ?_ | refine zz ?_ | refine zzd ?_)
  exact cw_retc2 rfl rfl rfl rfl (hBr.cels 0 2 (by simp [putL])) ⟨keep_at ((hn1.keep.non_trans hkq).non_trans hkp) hkr (Nat.le_refl _), cp, rfl, hcp.keep hkr (fun hc e => by have := hfp hc; omega), fun hc => by have := hfp hc; omega⟩
theorem ref7_Longest (hM : Mp H b l) (hl : l.length ≤ 100000) (hkl : ∀ p ∈ l, p.1.length ≤ 1000000) (hK : Bs H vk k) : Ret Try.prog 74 [ptr b 0, vk] H (fun v H' => PairA H H' (longM l k) v) := by
  refine ret_of Try.func74 rfl rfl rfl rfl ?_
  intro w0
  repeat (first | refine za ?_ | refine zb ?_ | refine zd ?_ | refine zj ?_ | refine zl ?_ | refine zr ?_ | refine zs ?_ | refine zt ?_ | refine zv ?_ | refine zw ?_ | refine zx ?_ | refine zy ?_ | refine zz ?_ | refine zza ?_ | refine zzb ?_ | refine zzc ?_ | refine zzd ?_ | refine zze ?_ | refine zzf ?_ | refine zzg ?_)
  refine x_alloc rfl rfl trivial ?_
  intro H1 hn1
  refine ⟨trivial, ?_⟩
  have hkq := Keep.refl Non H1
  have hM1 := hM.keepN hn1.keep
  have hK1 := hK.keepN hn1.keep
  obtain ⟨u, hB, hP⟩ := id hM1.row
  have sU := hP.sl
  have cU := sU.cap
  have hc0 : cel H1 b 0 = some u := by rw [hB.cel]; rfl
  repeat (first | refine za ?_ | refine zb ?_ | refine zd ?_ | refine zj ?_ | refine zl ?_ | refine zr ?_ | refine zs ?_ | refine zt ?_ | refine zv ?_ | refine zw ?_ | refine zx ?_ | refine zy ?_ | refine zz ?_ | refine zza ?_ | refine zzb ?_ | refine zzc ?_ | refine zzd ?_ | refine zze ?_ | refine zzf ?_ | refine zzg ?_)
  refine x_load rfl rfl (hpmt (hc0)) rfl trivial ?_
  repeat (first | refine za ?_ | refine zb ?_ | refine zd ?_ | refine zj ?_ | refine zl ?_ | refine zr ?_ | refine zs ?_ | refine zt ?_ | refine zv ?_ | refine zw ?_ | refine zx ?_ | refine zy ?_ | refine zz ?_ | refine zza ?_ | refine zzb ?_ | refine zzc ?_ | refine zzd ?_ | refine zze ?_ | refine zzf ?_ | refine zzg ?_)
  refine cw_loop (fun j : Nat => [(0, ptr b 0), (1, vk), (4, ptr H.size 0), (6, .int .i64 ((j : Int) - 1))]) (fun j H' => H1 = H' ∧ j ≤ l.length ∧ ∀ q ∈ l.drop j, begins k q.1 = false) (fun j => j) l.length (by repeat (first | exact True.intro | refine ⟨rfl, ?_⟩)) ⟨rfl, Nat.le_refl _, by simp⟩ ?_
  rintro j _ ⟨rfl, hj, hall⟩
  repeat (first | refine za ?_ | refine zb ?_ | refine zd ?_ | refine zj ?_ | refine zl ?_ | refine zr ?_ | refine zs ?_ | refine zt ?_ | refine zv ?_ | refine zw ?_ | refine zx ?_ | refine zy ?_ | refine zz ?_ | refine zza ?_ | refine zzb ?_ | refine zzc ?_ | refine zzd ?_ | refine zze ?_ | refine zzf ?_ | refine zzg ?_)
  refine cw_cond rfl (fun hj0 => ?_) (fun hj0 => ?_) <;> (try simp at hj0)
  · obtain ⟨i, rfl⟩ : ∃ i, j = i + 1 := ⟨j - 1, by omega⟩
    obtain ⟨p, hp⟩ := getp (l := l) (j := i) (by omega)
    obtain ⟨kk, a1, a2, a3⟩ := hP.at_ i p hp
    have ei : ((i + 1 : Nat) : Int) - 1 = (i : Int) := by omega
    rw [ei]
    repeat (first | refine za ?_ | refine zb ?_ | refine zd ?_ | refine zj ?_ | refine zl ?_ | refine zr ?_ | refine zs ?_ | refine zt ?_ | refine zv ?_ | refine zw ?_ | refine zx ?_ | refine zy ?_ | refine zz ?_ | refine zza ?_ | refine zzb ?_ | refine zzc ?_ | refine zzd ?_ | refine zze ?_ | refine zzf ?_ | refine zzg ?_)
    refine x_load rfl rfl (hpmt (hc0)) rfl trivial ?_
    repeat (first | refine za ?_ | refine zb ?_ | refine zd ?_ | refine zj ?_ | refine zl ?_ | refine zr ?_ | refine zs ?_ | refine zt ?_ | refine zv ?_ | refine zw ?_ | refine zx ?_ | refine zy ?_ | refine zz ?_ | refine zza ?_ | refine zzb ?_ | refine zzc ?_ | refine zzd ?_ | refine zze ?_ | refine zzf ?_ | refine zzg ?_)
    refine x_load rfl rfl (hpmt (a1)) rfl trivial ?_
    repeat (first | refine za ?_ | refine zb ?_ | refine zd ?_ | refine zj ?_ | refine zl ?_ | refine zr ?_ | refine zs ?_ | refine zt ?_ | refine zv ?_ | refine zw ?_ | refine zx ?_ | refine zy ?_ | refine zz ?_ | refine zza ?_ | refine zzb ?_ | refine zzc ?_ | refine zzd ?_ | refine zze ?_ | refine zzf ?_ | refine zzg ?_)
    refine x_call rfl rfl rfl trivial (ref_Begins hK1 a3) ?_
    rintro _ _ ⟨rfl, rfl⟩
    refine ⟨trivial, ?_⟩
    repeat (first | refine za ?_ | refine zb ?_ | refine zd ?_ | refine zj ?_ | refine zl ?_ | refine zr ?_ | refine zs ?_ | refine zt ?_ | refine zv ?_ | refine zw ?_ | refine zx ?_ | refine zy ?_ | refine zz ?_ | refine zza ?_ | refine zzb ?_ | refine zzc ?_ | refine zzd ?_ | refine zze ?_ | refine zzf ?_ | refine zzg ?_)
    refine cw_cond rfl (fun hbg => ?_) (fun hbg => ?_) <;> (try simp at hbg)
    · rw [longM_at hp hbg hall, ← selI_at hp]
      repeat (first | refine za ?_ | refine zb ?_ | refine zd ?_ | refine zj ?_ | refine zl ?_ | refine zr ?_ | refine zs ?_ | refine zt ?_ | refine zv ?_ | refine zw ?_ | refine zx ?_ | refine zy ?_ | refine zz ?_ | refine zza ?_ | refine zzb ?_ | refine zzc ?_ | refine zzd ?_ | refine zze ?_ | refine zzf ?_ | refine zzg ?_)
      refine x_call rfl rfl rfl trivial (ref_Select (i : Int) hM1 (by omega) hkl) ?_
      rintro _ Hp ⟨hkp, cp, rfl, hcp, hfp⟩
      refine ⟨trivial, ?_⟩
      repeat (first | refine za ?_ | refine zb ?_ | refine zd ?_ | refine zj ?_ | refine zl ?_ | refine zr ?_ | refine zs ?_ | refine zt ?_ | refine zv ?_ | refine zw ?_ | refine zx ?_ | refine zy ?_ | refine zz ?_ | refine zza ?_ | refine zzb ?_ | refine zzc ?_ | refine zzd ?_ | refine zze ?_ | refine zzf ?_ | refine zzg ?_)
      refine x_stores rfl rfl rfl rfl (two_oneC' (isSl_oneC hcp.sl)) ((hn1.blk.keep hkq (fun h => h)).keep hkp (fun h => h)) (by simp) trivial ?_
      intro Hr hBr hkr hsr
      refine ⟨trivial, ?_⟩
      have hsn := hn1.size
      have hsq := hkq.size
      repeat (first | refine za ?_ | refine zb ?_ | refine zd ?_ | refine zj ?_ | refine zl ?_ | refine zr ?_ | refine zs ?_ | refine zt ?_ | refine zv ?_ | refine zw ?_ | refine zx ?_ | refine zy ?_ | refine zz ?_ | refine zza ?_ | refine zzb ?_ | refine zzc ?_ | refine zzd ?_ | refine zze ?_ | refine zzf ?_ | refine zzg ?_)
      exact cw_retc2 rfl rfl rfl rfl (hBr.cels 0 2 (by simp [putL])) ⟨keep_at ((hn1.keep.non_trans hkq).non_trans hkp) hkr (Nat.le_refl _), cp, rfl, hcp.keep hkr (fun hc e => by have := hfp hc; omega), fun hc => by have := hfp hc; omega⟩
    · repeat (first | refine za ?_ | refine zb ?_ | refine zd ?_ | refine zj ?_ | refine zl ?_ | refine zr ?_ | refine zs ?_ | refine zt ?_ | refine zv ?_ | refine zw ?_ | refine zx ?_ | refine zy ?_ | refine zz ?_ | refine zza ?_ | refine zzb ?_ | refine zzc ?_ | refine zzd ?_ | refine zze ?_ | refine zzf ?_ | refine zzg ?_)
      refine nw_round i (by repeat (first | exact True.intro | refine ⟨rfl, ?_⟩)) ⟨rfl, by omega, fun q hq => ?_⟩ (by omega)
      have hi := (List.getElem?_eq_some_iff.1 hp)
      rw [List.drop_eq_getElem_cons hi.1, hi.2] at hq
      rcases List.mem_cons.1 hq with rfl | hq
      · exact hbg
      · exact hall q hq
  · have hj0' : j = 0 := by omega
    subst hj0'
    rw [longM_none (fun p hp => hall p (by simpa using hp))]
    repeat (first | refine za ?_ | refine zb ?_ | refine zd ?_ | refine zj ?_ | refine zl ?_ | refine zr ?_ | refine zs ?_ | refine zt ?_ | refine zv ?_ | refine zw ?_ | refine zx ?_ | refine zy ?_ | refine zz ?_ | refine zza ?_ | refine zzb ?_ | refine zzc ?_ | refine zzd ?_ | refine zze ?_ | refine zzf ?_ | refine zzg ?_)
    refine x_build (cs := [.slice none 0 0, .int .u64 0]) rfl rfl rfl (by simp) rfl trivial ?_
    refine x_stores rfl rfl rfl rfl (by simp [oneC, Value.oneCell']) hn1.blk (by simp) trivial ?_
    intro H2 hB2 hk2 hs2
    refine ⟨trivial, ?_⟩
    repeat (first | refine za ?_ | refine zb ?_ | refine zd ?_ | refine zj ?_ | refine zl ?_ | refine zr ?_ | refine zs ?_ | refine zt ?_ | refine zv ?_ | refine zw ?_ | refine zx ?_ | refine zy ?_ | refine zz ?_ | refine zza ?_ | refine zzb ?_ | refine zzc ?_ | refine zzd ?_ | refine zze ?_ | refine zzf ?_ | refine zzg ?_)
    exact cw_retc2 rfl rfl rfl rfl (hB2.cels 0 2 (by simp [putL])) ⟨keep_at hn1.keep hk2 (Nat.le_refl _), _, rfl, Own.nil _ _, Fresh.nil _⟩
theorem ref7_From (most : Int) (hM : Mp H b l) (hl : l.length ≤ 10000) (hkl : ∀ p ∈ l, p.1.length ≤ 1000000) (hK : Bs H vk k) : Ret Try.prog 79 [ptr b 0, vk, .int .i64 most] H (fun v H' => Keep Non H H' ∧ Po H.size H' v (fromM l k most)) := by
  have hle := rank_le l k
  refine ret_of Try.func79 rfl rfl rfl rfl ?_
  intro w0
  repeat (first | refine za ?_ | refine zb ?_ | refine zc ?_ | refine zj ?_ | refine zl ?_ | refine zm ?_ | refine zn ?_ | refine zs ?_ | refine zt ?_ | refine zu ?_ | refine zv ?_ | refine zw ?_ | refine zx ?_ | refine zy ?_ | refine zz ?_ | refine zza ?_ | refine zzb ?_ | refine zzc ?_ | refine zzd ?_ | refine zze ?_ | refine zzf ?_ | refine zzg ?_)
  refine x_call rfl rfl rfl trivial (ref_Rank hM hK) ?_
  rintro _ _ ⟨rfl, rfl⟩
  refine ⟨trivial, ?_⟩
  generalize hrk : rank l k = r at *
  repeat (first | refine za ?_ | refine zb ?_ | refine zc ?_ | refine zj ?_ | refine zl ?_ | refine zm ?_ | refine zn ?_ | refine zs ?_ | refine zt ?_ | refine zu ?_ | refine zv ?_ | refine zw ?_ | refine zx ?_ | refine zy ?_ | refine zz ?_ | refine zza ?_ | refine zzb ?_ | refine zzc ?_ | refine zzd ?_ | refine zze ?_ | refine zzf ?_ | refine zzg ?_)
  refine cw_loop (fun s : Nat × Value => [(0, ptr b 0), (2, .int .i64 most), (8, .int .i64 ((r + s.1 : Nat) : Int)), (7, s.2)]) (fun s H' => r + s.1 ≤ l.length ∧ s.1 ≤ most.toNat ∧ Keep Non H H' ∧ Po H.size H' s.2 ((l.drop r).take s.1)) (fun s => l.length - s.1) (0, _) (by repeat (first | exact True.intro | refine ⟨rfl, ?_⟩)) ⟨by simpa using hle, Nat.zero_le _, Keep.refl _ _, Po.nil _ _⟩ ?_
  rintro ⟨j, v⟩ H2 ⟨h1, h2, hk2, hP⟩
  dsimp only at h1 h2 hP ⊢
  have hM2 := hM.keepN hk2
  obtain ⟨u, hB2, hPu⟩ := id hM2.row
  have hc0 : cel H2 b 0 = some u := by rw [hB2.cel]; rfl
  have sU := hPu.sl
  have cU := sU.cap
  have hlj : ((l.drop r).take j).length = j := by simp; omega
  have sV := hP.ps.sl
  rw [hlj] at sV
  repeat (first | refine za ?_ | refine zb ?_ | refine zc ?_ | refine zj ?_ | refine zl ?_ | refine zm ?_ | refine zn ?_ | refine zs ?_ | refine zt ?_ | refine zu ?_ | refine zv ?_ | refine zw ?_ | refine zx ?_ | refine zy ?_ | refine zz ?_ | refine zza ?_ | refine zzb ?_ | refine zzc ?_ | refine zzd ?_ | refine zze ?_ | refine zzf ?_ | refine zzg ?_)
  refine x_load rfl rfl (hpmt (hc0)) rfl trivial ?_
  repeat (first | refine za ?_ | refine zb ?_ | refine zc ?_ | refine zj ?_ | refine zl ?_ | refine zm ?_ | refine zn ?_ | refine zs ?_ | refine zt ?_ | refine zu ?_ | refine zv ?_ | refine zw ?_ | refine zx ?_ | refine zy ?_ | refine zz ?_ | refine zza ?_ | refine zzb ?_ | refine zzc ?_ | refine zzd ?_ | refine zze ?_ | refine zzf ?_ | refine zzg ?_)
  refine x_split 19 rfl (fun h3 => ?_) (fun h3 => ?_) <;> (try simp at h3)
  · repeat (first | refine za ?_ | refine zb ?_ | refine zc ?_ | refine zj ?_ | refine zl ?_ | refine zm ?_ | refine zn ?_ | refine zs ?_ | refine zt ?_ | refine zu ?_ | refine zv ?_ | refine zw ?_ | refine zx ?_ | refine zy ?_ | refine zz ?_ | refine zza ?_ | refine zzb ?_ | refine zzc ?_ | refine zzd ?_ | refine zze ?_ | refine zzf ?_ | refine zzg ?_)
    refine cw_cond rfl (fun h4 => ?_) (fun h4 => ?_) <;> (try simp at h4)
    · obtain ⟨p, hp⟩ := getp (l := l) (j := r + j) (by omega)
      obtain ⟨kk, a1, a2, a3⟩ := hPu.at_ _ p hp
      obtain ⟨q, hq, ho, hd⟩ := hP.row
      repeat (first | refine za ?_ | refine zb ?_ | refine zc ?_ | refine zj ?_ | refine zl ?_ | refine zm ?_ | refine zn ?_ | refine zs ?_ | refine zt ?_ | refine zu ?_ | refine zv ?_ | refine zw ?_ | refine zx ?_ | refine zy ?_ | refine zz ?_ | refine zza ?_ | refine zzb ?_ | refine zzc ?_ | refine zzd ?_ | refine zze ?_ | refine zzf ?_ | refine zzg ?_)
      refine x_load rfl rfl (hpmt (hc0)) rfl trivial ?_
      repeat (first | refine za ?_ | refine zb ?_ | refine zc ?_ | refine zj ?_ | refine zl ?_ | refine zm ?_ | refine zn ?_ | refine zs ?_ | refine zt ?_ | refine zu ?_ | refine zv ?_ | refine zw ?_ | refine zx ?_ | refine zy ?_ | refine zz ?_ | refine zza ?_ | refine zzb ?_ | refine zzc ?_ | refine zzd ?_ | refine zze ?_ | refine zzf ?_ | refine zzg ?_)
      refine x_loads (cs := [kk, .int .u64 p.2]) rfl rfl rfl (hpmt (cels_two a1 a2)) rfl trivial ?_
      repeat (first | refine za ?_ | refine zb ?_ | refine zc ?_ | refine zj ?_ | refine zl ?_ | refine zm ?_ | refine zn ?_ | refine zs ?_ | refine zt ?_ | refine zu ?_ | refine zv ?_ | refine zw ?_ | refine zx ?_ | refine zy ?_ | refine zz ?_ | refine zza ?_ | refine zzb ?_ | refine zzc ?_ | refine zzd ?_ | refine zze ?_ | refine zzf ?_ | refine zzg ?_)
      refine x_call rfl rfl rfl trivial (ref_Pair a3 (hkl p (List.mem_of_getElem? hp))) ?_
      rintro _ H3 ⟨hk3, c, rfl, hc3, hf3⟩
      refine ⟨trivial, ?_⟩
      refine x_buildSliceS1 (by rfl) rfl rfl (by omega) (by rfl) rfl trivial ?_
      intro H4 hn4
      refine ⟨trivial, ?_⟩
      have hk4 := hn4.old hk3
      rw [hlj] at ho
      refine x_append (v := v) (by rfl) (by rfl) (by rfl) rfl rfl rfl (ho.keep hk4 (fun _ h => h)) (isSl_some (Nat.le_refl _) (by omega)) (m := 1) (cx := [c, .int .u64 p.2]) rfl (hn4.blk.cels 0 2 (by simp)) (two_oneC' (isSl_oneC hc3.sl)) (by omega) rfl trivial ?_
      intro v' H5 hap5
      refine ⟨trivial, ?_⟩
      rw [← hlj] at ho hap5
      have hP5 : Po H.size H5 v' ((l.drop r).take j ++ [p]) := Po.snoc hP.fresh hq ho hd hk2.size hk4 (hc3.keep hn4.keep (fun _ h => h)) hf3 hap5
      have hk5 : Keep Non H H5 := (hk2.non_trans hk4).old hap5.keep (fun z hz e => by have := hP.fresh (by omega); have := e.1; omega)
      have et : (l.drop r).take (j + 1) = (l.drop r).take j ++ [p] := by
        rw [List.take_add_one, List.getElem?_drop, hp]
        rfl
      rw [← et] at hP5
      repeat (first | refine za ?_ | refine zb ?_ | refine zc ?_ | refine zj ?_ | refine zl ?_ | refine zm ?_ | refine zn ?_ | refine zs ?_ | refine zt ?_ | refine zu ?_ | refine zv ?_ | refine zw ?_ | refine zx ?_ | refine zy ?_ | refine zz ?_ | refine zza ?_ | refine zzb ?_ | refine zzc ?_ | refine zzd ?_ | refine zze ?_ | refine zzf ?_ | refine zzg ?_)
      exact nw_round (j + 1, v') (by repeat (first | exact True.intro | refine ⟨rfl, ?_⟩)) ⟨by show r + (j + 1) ≤ _; omega, by show j + 1 ≤ _; omega, hk5, hP5⟩ (by show l.length - (j + 1) < l.length - j; omega)
    · repeat (first | refine za ?_ | refine zb ?_ | refine zc ?_ | refine zj ?_ | refine zl ?_ | refine zm ?_ | refine zn ?_ | refine zs ?_ | refine zt ?_ | refine zu ?_ | refine zv ?_ | refine zw ?_ | refine zx ?_ | refine zy ?_ | refine zz ?_ | refine zza ?_ | refine zzb ?_ | refine zzc ?_ | refine zzd ?_ | refine zze ?_ | refine zzf ?_ | refine zzg ?_)
      refine cw_ret1 rfl rfl ⟨hk2, ?_⟩
      have e : j = most.toNat := by omega
      unfold fromM
      rw [hrk, ← e]
      exact hP
  · repeat (first | refine za ?_ | refine zb ?_ | refine zc ?_ | refine zj ?_ | refine zl ?_ | refine zm ?_ | refine zn ?_ | refine zs ?_ | refine zt ?_ | refine zu ?_ | refine zv ?_ | refine zw ?_ | refine zx ?_ | refine zy ?_ | refine zz ?_ | refine zza ?_ | refine zzb ?_ | refine zzc ?_ | refine zzd ?_ | refine zze ?_ | refine zzf ?_ | refine zzg ?_)
    refine cw_ret1 rfl rfl ⟨hk2, ?_⟩
    unfold fromM
    rw [hrk, List.take_of_length_le (by simp; omega)]
    rw [List.take_of_length_le (by simp; omega)] at hP
    exact hP
end r7

theorem law_pair {c1 c2 : Value} {x : Int} {k : Bytes} {ok : Bool} {H : Heap} (hO : Own 1 H c1 k.length (bvs k)) (hK : Bs H c2 k) (hl : k.length ≤ 1000000) :
    Ret Try.prog 77 [.agg [c1, .int .u64 x].toArray, .bool ok, .agg [c2, .int .u64 x].toArray, .bool ok] H (fun v H' => v = .bool true ∧ Keep (fun z => z = sb c1 ∧ 0 < sc c1) H H') := by
  refine ret_of Try.func77 rfl rfl rfl rfl ?_
  intro w0
  repeat (first | refine za ?_ | refine zb ?_ | refine zj ?_ | refine zm ?_ | refine zn ?_ | refine zp ?_ | refine zt ?_ | refine zu ?_ | refine zx ?_ | refine zy ?_ | refine zz ?_ | refine zzd ?_)
  refine x_box rfl rfl rfl trivial ?_
  intro H1 hn1
  refine ⟨trivial, ?_⟩
  refine x_box rfl rfl rfl trivial ?_
  intro H2 hn2
  refine ⟨trivial, ?_⟩
  have hk2 : Keep Non H H2 := hn2.old hn1.keep
  have hB1 := hn1.blk.keep (S := Non) hn2.keep (fun h => h)
  have a0 : cel H2 H.size 0 = some c1 := by rw [hB1.cel]; rfl
  have a1 : cel H2 H.size 1 = some (.int .u64 x) := by rw [hB1.cel]; rfl
  have b0 : cel H2 H1.size 0 = some c2 := by rw [hn2.blk.cel]; rfl
  have b1 : cel H2 H1.size 1 = some (.int .u64 x) := by rw [hn2.blk.cel]; rfl
  have hO2 := hO.keep hk2 (fun _ h => h)
  have hK2 := hK.keepN hk2
  repeat (first | refine za ?_ | refine zb ?_ | refine zj ?_ | refine zm ?_ | refine zn ?_ | refine zp ?_ | refine zt ?_ | refine zu ?_ | refine zx ?_ | refine zy ?_ | refine zz ?_ | refine zzd ?_)
  refine x_true 13 rfl (by simp) ?_
  repeat (first | refine za ?_ | refine zb ?_ | refine zj ?_ | refine zm ?_ | refine zn ?_ | refine zp ?_ | refine zt ?_ | refine zu ?_ | refine zx ?_ | refine zy ?_ | refine zz ?_ | refine zzd ?_)
  refine x_load rfl rfl (hpmt (a1)) rfl trivial ?_
  repeat (first | refine za ?_ | refine zb ?_ | refine zj ?_ | refine zm ?_ | refine zn ?_ | refine zp ?_ | refine zt ?_ | refine zu ?_ | refine zx ?_ | refine zy ?_ | refine zz ?_ | refine zzd ?_)
  refine x_load rfl rfl (hpmt (b1)) rfl trivial ?_
  repeat (first | refine za ?_ | refine zb ?_ | refine zj ?_ | refine zm ?_ | refine zn ?_ | refine zp ?_ | refine zt ?_ | refine zu ?_ | refine zx ?_ | refine zy ?_ | refine zz ?_ | refine zzd ?_)
  refine x_true 20 rfl (by simp) ?_
  repeat (first | refine za ?_ | refine zb ?_ | refine zj ?_ | refine zm ?_ | refine zn ?_ | refine zp ?_ | refine zt ?_ | refine zu ?_ | refine zx ?_ | refine zy ?_ | refine zz ?_ | refine zzd ?_)
  refine x_load rfl rfl (hpmt (a0)) rfl trivial ?_
  repeat (first | refine za ?_ | refine zb ?_ | refine zj ?_ | refine zm ?_ | refine zn ?_ | refine zp ?_ | refine zt ?_ | refine zu ?_ | refine zx ?_ | refine zy ?_ | refine zz ?_ | refine zzd ?_)
  refine x_load rfl rfl (hpmt (b0)) rfl trivial ?_
  repeat (first | refine za ?_ | refine zb ?_ | refine zj ?_ | refine zm ?_ | refine zn ?_ | refine zp ?_ | refine zt ?_ | refine zu ?_ | refine zx ?_ | refine zy ?_ | refine zz ?_ | refine zzd ?_)
  refine x_call rfl rfl rfl trivial (law_SameBytes hO2.bs hK2) ?_
  rintro _ _ ⟨rfl, rfl⟩
  refine ⟨trivial, ?_⟩
  rw [show (k == k) = true by simp]
  repeat (first | refine za ?_ | refine zb ?_ | refine zj ?_ | refine zm ?_ | refine zn ?_ | refine zp ?_ | refine zt ?_ | refine zu ?_ | refine zx ?_ | refine zy ?_ | refine zz ?_ | refine zzd ?_)
  refine x_load rfl rfl (hpmt (a0)) rfl trivial ?_
  repeat (first | refine za ?_ | refine zb ?_ | refine zj ?_ | refine zm ?_ | refine zn ?_ | refine zp ?_ | refine zt ?_ | refine zu ?_ | refine zx ?_ | refine zy ?_ | refine zz ?_ | refine zzd ?_)
  refine x_call rfl rfl rfl trivial (law_OverBytes hO2 (by omega)) ?_
  rintro _ H3 ⟨rfl, hk3⟩
  refine ⟨trivial, ?_⟩
  repeat (first | refine za ?_ | refine zb ?_ | refine zj ?_ | refine zm ?_ | refine zn ?_ | refine zp ?_ | refine zt ?_ | refine zu ?_ | refine zx ?_ | refine zy ?_ | refine zz ?_ | refine zzd ?_)
  exact cw_ret1 rfl rfl ⟨rfl, (hk2.mono (fun _ _ h => h.elim)).step hk3 (fun _ _ e => e)⟩
/-- an answer, all of it in blocks from lo to below hi -/
structure Ans (lo hi : Nat) (H : Heap) (a : Nat) (c : Value) (o : Option Pr) : Prop where
  cells : Cels H a 0 [c, .int .u64 (o.getD ([], 0)).2]
  own : Own 1 H c (o.getD ([], 0)).1.length (bvs (o.getD ([], 0)).1)
  ra : lo ≤ a ∧ a < hi
  rc : 0 < sc c → lo ≤ sb c ∧ sb c < hi
theorem Ans.keep {S : Nat → Prop} {lo hi : Nat} {H H' : Heap} {a : Nat} {c : Value} {o : Option Pr} (h : Ans lo hi H a c o) (k : Keep S H H') (hS : ∀ z, lo ≤ z → z < hi → ¬ S z) : Ans lo hi H' a c o :=
  ⟨h.cells.keep k (fun _ => hS _ h.ra.1 h.ra.2), h.own.keep k (fun hc => hS _ (h.rc hc).1 (h.rc hc).2), h.ra, h.rc⟩
theorem Ans.keepN {lo hi : Nat} {H H' : Heap} {a : Nat} {c : Value} {o : Option Pr} (h : Ans lo hi H a c o) (k : Keep Non H H') : Ans lo hi H' a c o := h.keep k (fun _ _ _ h => h)
theorem ans_of {H Ha Hb Hc : Heap} {c : Value} {o : Option Pr} (hka : Keep Non H Ha) (hca : Own 1 Ha c (o.getD ([], 0)).1.length (bvs (o.getD ([], 0)).1)) (hfa : Fresh H c) (hnb : New Ha Hb [.slice none 0 0, .int .u64 0])
    (hBc : Blk Hc Ha.size (putL [.slice none 0 0, .int .u64 0] 0 [c, .int .u64 (o.getD ([], 0)).2])) (hkc : Keep (· = Ha.size) Hb Hc) (hsc : Hc.size = Hb.size) : Ans H.size Hc.size Hc Ha.size c o := by
  have hs1 := hka.size
  have hs2 := hnb.size
  refine ⟨?_, (hca.keep (S := Non) hnb.keep (fun _ h => h)).keep hkc (fun hc e => by have := hca.lt hc; omega), by omega, fun hc => ?_⟩
  · have := hBc.cels 0 2 (by simp [putL])
    simpa [putL] using this
  · have h1 := hfa hc
    have h2 := hca.lt hc
    omega
theorem opt_len {o : Option Pr} {l : List Pr} {n : Nat} (h : ∀ p ∈ l, p.1.length ≤ n) (ho : ∀ p, o = some p → p ∈ l) : (o.getD ([], 0)).1.length ≤ n := by
  cases o with
  | none => exact Nat.zero_le _
  | some p => exact h p (ho p rfl)
theorem selI_mem {l : List Pr} {i : Int} {p : Pr} (h : selI l i = some p) : p ∈ l := by
  unfold selI at h
  split at h
  · exact List.mem_of_getElem? h
  · cases h
theorem longM_mem {l : List Pr} {k : Bytes} {p : Pr} (h : longM l k = some p) : p ∈ l := List.mem_reverse.1 (List.mem_of_find?_eq_some h)

theorem law_asked {G : Role} {H : Heap} {b most c : Nat} {t : BT} {vk : Value} {k : Bytes} {n : Int} (hB : Bu G H b most t) (hc : t.count ≤ 4000) (hM : Mp H c (t.pairs [])) (hK : Bs H vk k) (hkl : k.length ≤ 1000000) :
    Ret Try.prog 39 [ptr b 0, ptr c 0, vk, .int .i64 n] H (fun v H' => v = .bool true ∧ Keep Non H H') := by
  have hlen := hB.len
  have hrise := hB.rise
  have hmay := hB.may
  have hmay2 : ∀ p ∈ t.pairs [], p.1.length ≤ 1000000 := fun p hp => by have := hmay p hp; omega
  refine ret_of Try.func39 rfl rfl rfl rfl ?_
  intro w0
  repeat (first | refine za ?_ | refine zb ?_ | refine zj ?_ | refine zm ?_ | refine zn ?_ | refine zp ?_ | refine zr ?_ | refine zu ?_ | refine zx ?_ | refine zy ?_ | refine zz ?_ | refine zzd ?_)
  refine x_call rfl rfl rfl trivial (law_LendBytes hK (by omega)) ?_
  rintro vi H0 ⟨hk0, hL0, hF0⟩
  refine ⟨trivial, ?_⟩
  have hli := hL0.lt
  have hfi : H.size ≤ sb vi := hF0 (by have := hL0.cap; omega)
  have kn0 := hk0
  have ks0 : Keep Non H0 H0 := Keep.refl _ _
  repeat (first | refine za ?_ | refine zb ?_ | refine zj ?_ | refine zm ?_ | refine zn ?_ | refine zp ?_ | refine zr ?_ | refine zu ?_ | refine zx ?_ | refine zy ?_ | refine zz ?_ | refine zzd ?_)
  refine x_call rfl rfl rfl trivial (tree_Floor (hB.keepN kn0) (by omega) (hL0.bs.keepN ks0)) ?_
  rintro _ Ha1 ⟨hka1, c1, rfl, hca1, hfa1⟩
  refine ⟨trivial, ?_⟩
  repeat (first | refine za ?_ | refine zb ?_ | refine zj ?_ | refine zm ?_ | refine zn ?_ | refine zp ?_ | refine zr ?_ | refine zu ?_ | refine zx ?_ | refine zy ?_ | refine zz ?_ | refine zzd ?_)
  refine x_alloc rfl rfl trivial ?_
  intro Hb1 hnb1
  refine ⟨trivial, ?_⟩
  refine x_stores rfl rfl rfl rfl (two_oneC' (isSl_oneC hca1.sl)) hnb1.blk (by simp) trivial ?_
  intro Hc1 hBc1 hkc1 hsc1
  refine ⟨trivial, ?_⟩
  have hq1 : Keep Non H0 Hc1 := hka1.non_trans (keep_at hnb1.keep hkc1 (Nat.le_refl _))
  have A1 : Ans H0.size Hc1.size Hc1 Ha1.size c1 (floorM (t.pairs []) k) := ans_of hka1 hca1 hfa1 hnb1 hBc1 hkc1 hsc1
  have kn1 := kn0.non_trans hq1
  have ks1 := ks0.non_trans hq1
  have hs1 := hq1.size
  repeat (first | refine za ?_ | refine zb ?_ | refine zj ?_ | refine zm ?_ | refine zn ?_ | refine zp ?_ | refine zr ?_ | refine zu ?_ | refine zx ?_ | refine zy ?_ | refine zz ?_ | refine zzd ?_)
  refine x_call rfl rfl rfl trivial (ref7_Floor (hM.keepN kn1) (by omega) hmay2 (hK.keepN kn1)) ?_
  rintro _ Ha2 ⟨hka2, c2, rfl, hca2, hfa2⟩
  refine ⟨trivial, ?_⟩
  repeat (first | refine za ?_ | refine zb ?_ | refine zj ?_ | refine zm ?_ | refine zn ?_ | refine zp ?_ | refine zr ?_ | refine zu ?_ | refine zx ?_ | refine zy ?_ | refine zz ?_ | refine zzd ?_)
  refine x_alloc rfl rfl trivial ?_
  intro Hb2 hnb2
  refine ⟨trivial, ?_⟩
  refine x_stores rfl rfl rfl rfl (two_oneC' (isSl_oneC hca2.sl)) hnb2.blk (by simp) trivial ?_
  intro Hc2 hBc2 hkc2 hsc2
  refine ⟨trivial, ?_⟩
  have hq2 : Keep Non Hc1 Hc2 := hka2.non_trans (keep_at hnb2.keep hkc2 (Nat.le_refl _))
  have A2 : Ans Hc1.size Hc2.size Hc2 Ha2.size c2 (floorM (t.pairs []) k) := ans_of hka2 hca2 hfa2 hnb2 hBc2 hkc2 hsc2
  have kn2 := kn1.non_trans hq2
  have ks2 := ks1.non_trans hq2
  have hs2 := hq2.size
  have A1 := A1.keepN hq2
  repeat (first | refine za ?_ | refine zb ?_ | refine zj ?_ | refine zm ?_ | refine zn ?_ | refine zp ?_ | refine zr ?_ | refine zu ?_ | refine zx ?_ | refine zy ?_ | refine zz ?_ | refine zzd ?_)
  refine x_call rfl rfl rfl trivial (tree_Ceil (hB.keepN kn2) (by omega) (hL0.bs.keepN ks2)) ?_
  rintro _ Ha3 ⟨hka3, c3, rfl, hca3, hfa3⟩
  refine ⟨trivial, ?_⟩
  repeat (first | refine za ?_ | refine zb ?_ | refine zj ?_ | refine zm ?_ | refine zn ?_ | refine zp ?_ | refine zr ?_ | refine zu ?_ | refine zx ?_ | refine zy ?_ | refine zz ?_ | refine zzd ?_)
  refine x_alloc rfl rfl trivial ?_
  intro Hb3 hnb3
  refine ⟨trivial, ?_⟩
  refine x_stores rfl rfl rfl rfl (two_oneC' (isSl_oneC hca3.sl)) hnb3.blk (by simp) trivial ?_
  intro Hc3 hBc3 hkc3 hsc3
  refine ⟨trivial, ?_⟩
  have hq3 : Keep Non Hc2 Hc3 := hka3.non_trans (keep_at hnb3.keep hkc3 (Nat.le_refl _))
  have A3 : Ans Hc2.size Hc3.size Hc3 Ha3.size c3 (ceilM (t.pairs []) k) := ans_of hka3 hca3 hfa3 hnb3 hBc3 hkc3 hsc3
  have kn3 := kn2.non_trans hq3
  have ks3 := ks2.non_trans hq3
  have hs3 := hq3.size
  have A1 := A1.keepN hq3
  have A2 := A2.keepN hq3
  repeat (first | refine za ?_ | refine zb ?_ | refine zj ?_ | refine zm ?_ | refine zn ?_ | refine zp ?_ | refine zr ?_ | refine zu ?_ | refine zx ?_ | refine zy ?_ | refine zz ?_ | refine zzd ?_)
  refine x_call rfl rfl rfl trivial (ref7_Ceil (hM.keepN kn3) (by omega) hmay2 (hK.keepN kn3)) ?_
  rintro _ Ha4 ⟨hka4, c4, rfl, hca4, hfa4⟩
  refine ⟨trivial, ?_⟩
  repeat (first | refine za ?_ | refine zb ?_ | refine zj ?_ | refine zm ?_ | refine zn ?_ | refine zp ?_ | refine zr ?_ | refine zu ?_ | refine zx ?_ | refine zy ?_ | refine zz ?_ | refine zzd ?_)
  refine x_alloc rfl rfl trivial ?_
  intro Hb4 hnb4
  refine ⟨trivial, ?_⟩
  refine x_stores rfl rfl rfl rfl (two_oneC' (isSl_oneC hca4.sl)) hnb4.blk (by simp) trivial ?_
  intro Hc4 hBc4 hkc4 hsc4
  refine ⟨trivial, ?_⟩
  have hq4 : Keep Non Hc3 Hc4 := hka4.non_trans (keep_at hnb4.keep hkc4 (Nat.le_refl _))
  have A4 : Ans Hc3.size Hc4.size Hc4 Ha4.size c4 (ceilM (t.pairs []) k) := ans_of hka4 hca4 hfa4 hnb4 hBc4 hkc4 hsc4
  have kn4 := kn3.non_trans hq4
  have ks4 := ks3.non_trans hq4
  have hs4 := hq4.size
  have A1 := A1.keepN hq4
  have A2 := A2.keepN hq4
  have A3 := A3.keepN hq4
  repeat (first | refine za ?_ | refine zb ?_ | refine zj ?_ | refine zm ?_ | refine zn ?_ | refine zp ?_ | refine zr ?_ | refine zu ?_ | refine zx ?_ | refine zy ?_ | refine zz ?_ | refine zzd ?_)
  refine x_call rfl rfl rfl trivial (tree_Longest (hB.keepN kn4) (by omega) (hL0.bs.keepN ks4)) ?_
  rintro _ Ha5 ⟨hka5, c5, rfl, hca5, hfa5⟩
  refine ⟨trivial, ?_⟩
  repeat (first | refine za ?_ | refine zb ?_ | refine zj ?_ | refine zm ?_ | refine zn ?_ | refine zp ?_ | refine zr ?_ | refine zu ?_ | refine zx ?_ | refine zy ?_ | refine zz ?_ | refine zzd ?_)
  refine x_alloc rfl rfl trivial ?_
  intro Hb5 hnb5
  refine ⟨trivial, ?_⟩
  refine x_stores rfl rfl rfl rfl (two_oneC' (isSl_oneC hca5.sl)) hnb5.blk (by simp) trivial ?_
  intro Hc5 hBc5 hkc5 hsc5
  refine ⟨trivial, ?_⟩
  have hq5 : Keep Non Hc4 Hc5 := hka5.non_trans (keep_at hnb5.keep hkc5 (Nat.le_refl _))
  have A5 : Ans Hc4.size Hc5.size Hc5 Ha5.size c5 (longM (t.pairs []) k) := ans_of hka5 hca5 hfa5 hnb5 hBc5 hkc5 hsc5
  have kn5 := kn4.non_trans hq5
  have ks5 := ks4.non_trans hq5
  have hs5 := hq5.size
  have A1 := A1.keepN hq5
  have A2 := A2.keepN hq5
  have A3 := A3.keepN hq5
  have A4 := A4.keepN hq5
  repeat (first | refine za ?_ | refine zb ?_ | refine zj ?_ | refine zm ?_ | refine zn ?_ | refine zp ?_ | refine zr ?_ | refine zu ?_ | refine zx ?_ | refine zy ?_ | refine zz ?_ | refine zzd ?_)
  refine x_call rfl rfl rfl trivial (ref7_Longest (hM.keepN kn5) (by omega) hmay2 (hK.keepN kn5)) ?_
  rintro _ Ha6 ⟨hka6, c6, rfl, hca6, hfa6⟩
  refine ⟨trivial, ?_⟩
  repeat (first | refine za ?_ | refine zb ?_ | refine zj ?_ | refine zm ?_ | refine zn ?_ | refine zp ?_ | refine zr ?_ | refine zu ?_ | refine zx ?_ | refine zy ?_ | refine zz ?_ | refine zzd ?_)
  refine x_alloc rfl rfl trivial ?_
  intro Hb6 hnb6
  refine ⟨trivial, ?_⟩
  refine x_stores rfl rfl rfl rfl (two_oneC' (isSl_oneC hca6.sl)) hnb6.blk (by simp) trivial ?_
  intro Hc6 hBc6 hkc6 hsc6
  refine ⟨trivial, ?_⟩
  have hq6 : Keep Non Hc5 Hc6 := hka6.non_trans (keep_at hnb6.keep hkc6 (Nat.le_refl _))
  have A6 : Ans Hc5.size Hc6.size Hc6 Ha6.size c6 (longM (t.pairs []) k) := ans_of hka6 hca6 hfa6 hnb6 hBc6 hkc6 hsc6
  have kn6 := kn5.non_trans hq6
  have ks6 := ks5.non_trans hq6
  have hs6 := hq6.size
  have A1 := A1.keepN hq6
  have A2 := A2.keepN hq6
  have A3 := A3.keepN hq6
  have A4 := A4.keepN hq6
  have A5 := A5.keepN hq6
  repeat (first | refine za ?_ | refine zb ?_ | refine zj ?_ | refine zm ?_ | refine zn ?_ | refine zp ?_ | refine zr ?_ | refine zu ?_ | refine zx ?_ | refine zy ?_ | refine zz ?_ | refine zzd ?_)
  refine x_call rfl rfl rfl trivial (tree_Select n (hB.keepN kn6) (by omega)) ?_
  rintro _ Ha7 ⟨hka7, c7, rfl, hca7, hfa7⟩
  refine ⟨trivial, ?_⟩
  repeat (first | refine za ?_ | refine zb ?_ | refine zj ?_ | refine zm ?_ | refine zn ?_ | refine zp ?_ | refine zr ?_ | refine zu ?_ | refine zx ?_ | refine zy ?_ | refine zz ?_ | refine zzd ?_)
  refine x_alloc rfl rfl trivial ?_
  intro Hb7 hnb7
  refine ⟨trivial, ?_⟩
  refine x_stores rfl rfl rfl rfl (two_oneC' (isSl_oneC hca7.sl)) hnb7.blk (by simp) trivial ?_
  intro Hc7 hBc7 hkc7 hsc7
  refine ⟨trivial, ?_⟩
  have hq7 : Keep Non Hc6 Hc7 := hka7.non_trans (keep_at hnb7.keep hkc7 (Nat.le_refl _))
  have A7 : Ans Hc6.size Hc7.size Hc7 Ha7.size c7 (selI (t.pairs []) n) := ans_of hka7 hca7 hfa7 hnb7 hBc7 hkc7 hsc7
  have kn7 := kn6.non_trans hq7
  have ks7 := ks6.non_trans hq7
  have hs7 := hq7.size
  have A1 := A1.keepN hq7
  have A2 := A2.keepN hq7
  have A3 := A3.keepN hq7
  have A4 := A4.keepN hq7
  have A5 := A5.keepN hq7
  have A6 := A6.keepN hq7
  repeat (first | refine za ?_ | refine zb ?_ | refine zj ?_ | refine zm ?_ | refine zn ?_ | refine zp ?_ | refine zr ?_ | refine zu ?_ | refine zx ?_ | refine zy ?_ | refine zz ?_ | refine zzd ?_)
  refine x_call rfl rfl rfl trivial (ref_Select n (hM.keepN kn7) (by omega) hmay2) ?_
  rintro _ Ha8 ⟨hka8, c8, rfl, hca8, hfa8⟩
  refine ⟨trivial, ?_⟩
  repeat (first | refine za ?_ | refine zb ?_ | refine zj ?_ | refine zm ?_ | refine zn ?_ | refine zp ?_ | refine zr ?_ | refine zu ?_ | refine zx ?_ | refine zy ?_ | refine zz ?_ | refine zzd ?_)
  refine x_alloc rfl rfl trivial ?_
  intro Hb8 hnb8
  refine ⟨trivial, ?_⟩
  refine x_stores rfl rfl rfl rfl (two_oneC' (isSl_oneC hca8.sl)) hnb8.blk (by simp) trivial ?_
  intro Hc8 hBc8 hkc8 hsc8
  refine ⟨trivial, ?_⟩
  have hq8 : Keep Non Hc7 Hc8 := hka8.non_trans (keep_at hnb8.keep hkc8 (Nat.le_refl _))
  have A8 : Ans Hc7.size Hc8.size Hc8 Ha8.size c8 (selI (t.pairs []) n) := ans_of hka8 hca8 hfa8 hnb8 hBc8 hkc8 hsc8
  have kn8 := kn7.non_trans hq8
  have ks8 := ks7.non_trans hq8
  have hs8 := hq8.size
  have A1 := A1.keepN hq8
  have A2 := A2.keepN hq8
  have A3 := A3.keepN hq8
  have A4 := A4.keepN hq8
  have A5 := A5.keepN hq8
  have A6 := A6.keepN hq8
  have A7 := A7.keepN hq8
  repeat (first | refine za ?_ | refine zb ?_ | refine zj ?_ | refine zm ?_ | refine zn ?_ | refine zp ?_ | refine zr ?_ | refine zu ?_ | refine zx ?_ | refine zy ?_ | refine zz ?_ | refine zzd ?_)
  refine x_call rfl rfl rfl trivial (tree_Get (hB.keepN kn8) (by omega) (hL0.bs.keepN ks8)) ?_
  rintro _ H9 ⟨hq9, rfl⟩
  refine ⟨trivial, ?_⟩
  have kn9 := kn8.non_trans hq9
  have ks9 := ks8.non_trans hq9
  repeat (first | refine za ?_ | refine zb ?_ | refine zj ?_ | refine zm ?_ | refine zn ?_ | refine zp ?_ | refine zr ?_ | refine zu ?_ | refine zx ?_ | refine zy ?_ | refine zz ?_ | refine zzd ?_)
  refine x_call rfl rfl rfl trivial (ref_Get (hM.keepN kn9) (hK.keepN kn9)) ?_
  rintro _ _ ⟨rfl, rfl⟩
  refine ⟨trivial, ?_⟩
  repeat (first | refine za ?_ | refine zb ?_ | refine zj ?_ | refine zm ?_ | refine zn ?_ | refine zp ?_ | refine zr ?_ | refine zu ?_ | refine zx ?_ | refine zy ?_ | refine zz ?_ | refine zzd ?_)
  refine x_call rfl rfl rfl trivial (tree_From n (hB.keepN kn9) (by omega) (hL0.bs.keepN ks9)) ?_
  rintro vf H10 ⟨hq10, hPf⟩
  refine ⟨trivial, ?_⟩
  have kn10 := kn9.non_trans hq10
  have ks10 := ks9.non_trans hq10
  have hs9 := hq9.size
  have hs10 := hq10.size
  have hs0 := hk0.size
  have A1 := A1.keepN (hq9.non_trans hq10)
  have A2 := A2.keepN (hq9.non_trans hq10)
  have A3 := A3.keepN (hq9.non_trans hq10)
  have A4 := A4.keepN (hq9.non_trans hq10)
  have A5 := A5.keepN (hq9.non_trans hq10)
  have A6 := A6.keepN (hq9.non_trans hq10)
  have A7 := A7.keepN (hq9.non_trans hq10)
  have A8 := A8.keepN (hq9.non_trans hq10)
  have km0 : Keep (fun z => H0.size ≤ z ∧ z < H9.size) H10 H10 := Keep.refl _ _
  repeat (first | refine za ?_ | refine zb ?_ | refine zj ?_ | refine zm ?_ | refine zn ?_ | refine zp ?_ | refine zr ?_ | refine zu ?_ | refine zx ?_ | refine zy ?_ | refine zz ?_ | refine zzd ?_)
  refine x_loads (cs := [c1, .int .u64 _]) rfl rfl rfl (hpmt A1.cells) rfl trivial ?_
  repeat (first | refine za ?_ | refine zb ?_ | refine zj ?_ | refine zm ?_ | refine zn ?_ | refine zp ?_ | refine zr ?_ | refine zu ?_ | refine zx ?_ | refine zy ?_ | refine zz ?_ | refine zzd ?_)
  refine x_loads (cs := [c2, .int .u64 _]) rfl rfl rfl (hpmt A2.cells) rfl trivial ?_
  repeat (first | refine za ?_ | refine zb ?_ | refine zj ?_ | refine zm ?_ | refine zn ?_ | refine zp ?_ | refine zr ?_ | refine zu ?_ | refine zx ?_ | refine zy ?_ | refine zz ?_ | refine zzd ?_)
  refine x_call rfl rfl rfl trivial (law_pair A1.own A2.own.bs (opt_len hmay2 (fun p h => selI_mem h))) ?_
  rintro _ Hp1 ⟨rfl, hkp1⟩
  refine ⟨trivial, ?_⟩
  have km1 := km0.step hkp1 (fun z _ e => by have := A1.rc e.2; have := e.1; omega)
  have A3 := A3.keep hkp1 (fun z h1 h2 e => by have := A1.rc e.2; have := e.1; omega)
  have A4 := A4.keep hkp1 (fun z h1 h2 e => by have := A1.rc e.2; have := e.1; omega)
  have A5 := A5.keep hkp1 (fun z h1 h2 e => by have := A1.rc e.2; have := e.1; omega)
  have A6 := A6.keep hkp1 (fun z h1 h2 e => by have := A1.rc e.2; have := e.1; omega)
  have A7 := A7.keep hkp1 (fun z h1 h2 e => by have := A1.rc e.2; have := e.1; omega)
  have A8 := A8.keep hkp1 (fun z h1 h2 e => by have := A1.rc e.2; have := e.1; omega)
  repeat (first | refine za ?_ | refine zb ?_ | refine zj ?_ | refine zm ?_ | refine zn ?_ | refine zp ?_ | refine zr ?_ | refine zu ?_ | refine zx ?_ | refine zy ?_ | refine zz ?_ | refine zzd ?_)
  refine x_loads (cs := [c3, .int .u64 _]) rfl rfl rfl (hpmt A3.cells) rfl trivial ?_
  repeat (first | refine za ?_ | refine zb ?_ | refine zj ?_ | refine zm ?_ | refine zn ?_ | refine zp ?_ | refine zr ?_ | refine zu ?_ | refine zx ?_ | refine zy ?_ | refine zz ?_ | refine zzd ?_)
  refine x_loads (cs := [c4, .int .u64 _]) rfl rfl rfl (hpmt A4.cells) rfl trivial ?_
  repeat (first | refine za ?_ | refine zb ?_ | refine zj ?_ | refine zm ?_ | refine zn ?_ | refine zp ?_ | refine zr ?_ | refine zu ?_ | refine zx ?_ | refine zy ?_ | refine zz ?_ | refine zzd ?_)
  refine x_call rfl rfl rfl trivial (law_pair A3.own A4.own.bs (opt_len hmay2 (fun p h => selI_mem h))) ?_
  rintro _ Hp3 ⟨rfl, hkp3⟩
  refine ⟨trivial, ?_⟩
  have km3 := km1.step hkp3 (fun z _ e => by have := A3.rc e.2; have := e.1; omega)
  have A5 := A5.keep hkp3 (fun z h1 h2 e => by have := A3.rc e.2; have := e.1; omega)
  have A6 := A6.keep hkp3 (fun z h1 h2 e => by have := A3.rc e.2; have := e.1; omega)
  have A7 := A7.keep hkp3 (fun z h1 h2 e => by have := A3.rc e.2; have := e.1; omega)
  have A8 := A8.keep hkp3 (fun z h1 h2 e => by have := A3.rc e.2; have := e.1; omega)
  repeat (first | refine za ?_ | refine zb ?_ | refine zj ?_ | refine zm ?_ | refine zn ?_ | refine zp ?_ | refine zr ?_ | refine zu ?_ | refine zx ?_ | refine zy ?_ | refine zz ?_ | refine zzd ?_)
  refine x_loads (cs := [c5, .int .u64 _]) rfl rfl rfl (hpmt A5.cells) rfl trivial ?_
  repeat (first | refine za ?_ | refine zb ?_ | refine zj ?_ | refine zm ?_ | refine zn ?_ | refine zp ?_ | refine zr ?_ | refine zu ?_ | refine zx ?_ | refine zy ?_ | refine zz ?_ | refine zzd ?_)
  refine x_loads (cs := [c6, .int .u64 _]) rfl rfl rfl (hpmt A6.cells) rfl trivial ?_
  repeat (first | refine za ?_ | refine zb ?_ | refine zj ?_ | refine zm ?_ | refine zn ?_ | refine zp ?_ | refine zr ?_ | refine zu ?_ | refine zx ?_ | refine zy ?_ | refine zz ?_ | refine zzd ?_)
  refine x_call rfl rfl rfl trivial (law_pair A5.own A6.own.bs (opt_len hmay2 (fun p h => longM_mem h))) ?_
  rintro _ Hp5 ⟨rfl, hkp5⟩
  refine ⟨trivial, ?_⟩
  have km5 := km3.step hkp5 (fun z _ e => by have := A5.rc e.2; have := e.1; omega)
  have A7 := A7.keep hkp5 (fun z h1 h2 e => by have := A5.rc e.2; have := e.1; omega)
  have A8 := A8.keep hkp5 (fun z h1 h2 e => by have := A5.rc e.2; have := e.1; omega)
  repeat (first | refine za ?_ | refine zb ?_ | refine zj ?_ | refine zm ?_ | refine zn ?_ | refine zp ?_ | refine zr ?_ | refine zu ?_ | refine zx ?_ | refine zy ?_ | refine zz ?_ | refine zzd ?_)
  refine x_loads (cs := [c7, .int .u64 _]) rfl rfl rfl (hpmt A7.cells) rfl trivial ?_
  repeat (first | refine za ?_ | refine zb ?_ | refine zj ?_ | refine zm ?_ | refine zn ?_ | refine zp ?_ | refine zr ?_ | refine zu ?_ | refine zx ?_ | refine zy ?_ | refine zz ?_ | refine zzd ?_)
  refine x_loads (cs := [c8, .int .u64 _]) rfl rfl rfl (hpmt A8.cells) rfl trivial ?_
  repeat (first | refine za ?_ | refine zb ?_ | refine zj ?_ | refine zm ?_ | refine zn ?_ | refine zp ?_ | refine zr ?_ | refine zu ?_ | refine zx ?_ | refine zy ?_ | refine zz ?_ | refine zzd ?_)
  refine x_call rfl rfl rfl trivial (law_pair A7.own A8.own.bs (opt_len hmay2 (fun p h => selI_mem h))) ?_
  rintro _ Hp7 ⟨rfl, hkp7⟩
  refine ⟨trivial, ?_⟩
  have km7 := km5.step hkp7 (fun z _ e => by have := A7.rc e.2; have := e.1; omega)
  have hkm : Keep Non H Hp7 := kn10.old km7 (fun z hz e => by have := e.1; omega)
  have hki : Keep (fun z => H0.size ≤ z) H0 Hp7 := (ks10.mono (S' := fun z => H0.size ≤ z) (fun _ _ h => h.elim)).step km7 (fun z _ e => e.1)
  have hLi := hL0.keep hki (fun e => by omega)
  have hPs := hPf.toS.keep km7 (fun z h1 h2 => by have := h1.1; have := h2.2; omega)
  repeat (first | refine za ?_ | refine zb ?_ | refine zj ?_ | refine zm ?_ | refine zn ?_ | refine zp ?_ | refine zr ?_ | refine zu ?_ | refine zx ?_ | refine zy ?_ | refine zz ?_ | refine zzd ?_)
  refine x_true 129 rfl (by simp) ?_
  repeat (first | refine za ?_ | refine zb ?_ | refine zj ?_ | refine zm ?_ | refine zn ?_ | refine zp ?_ | refine zr ?_ | refine zu ?_ | refine zx ?_ | refine zy ?_ | refine zz ?_ | refine zzd ?_)
  refine x_true 134 rfl (by simp [getM_is]) ?_
  repeat (first | refine za ?_ | refine zb ?_ | refine zj ?_ | refine zm ?_ | refine zn ?_ | refine zp ?_ | refine zr ?_ | refine zu ?_ | refine zx ?_ | refine zy ?_ | refine zz ?_ | refine zzd ?_)
  refine x_call rfl rfl rfl trivial (tree_Rank (hB.keepN hkm) (by omega) hLi.bs) ?_
  rintro _ H11 ⟨hq11, rfl⟩
  refine ⟨trivial, ?_⟩
  have kn11 := hkm.non_trans hq11
  repeat (first | refine za ?_ | refine zb ?_ | refine zj ?_ | refine zm ?_ | refine zn ?_ | refine zp ?_ | refine zr ?_ | refine zu ?_ | refine zx ?_ | refine zy ?_ | refine zz ?_ | refine zzd ?_)
  refine x_call rfl rfl rfl trivial (ref_Rank (hM.keepN kn11) (hK.keepN kn11)) ?_
  rintro _ _ ⟨rfl, rfl⟩
  refine ⟨trivial, ?_⟩
  repeat (first | refine za ?_ | refine zb ?_ | refine zj ?_ | refine zm ?_ | refine zn ?_ | refine zp ?_ | refine zr ?_ | refine zu ?_ | refine zx ?_ | refine zy ?_ | refine zz ?_ | refine zzd ?_)
  refine x_true 143 rfl (by simp) ?_
  repeat (first | refine za ?_ | refine zb ?_ | refine zj ?_ | refine zm ?_ | refine zn ?_ | refine zp ?_ | refine zr ?_ | refine zu ?_ | refine zx ?_ | refine zy ?_ | refine zz ?_ | refine zzd ?_)
  refine x_call rfl rfl rfl trivial (ref7_From n (hM.keepN kn11) (by omega) hmay2 (hK.keepN kn11)) ?_
  rintro vr H12 ⟨hq12, hPr⟩
  refine ⟨trivial, ?_⟩
  have kn12 := kn11.non_trans hq12
  have hPs2 := hPs.keep (S' := Non) (hq11.non_trans hq12) (fun _ _ h => h)
  refine x_call rfl rfl rfl trivial (law_SamePairs hPs2.ps hPr.ps) ?_
  rintro _ _ ⟨rfl, rfl⟩
  refine ⟨trivial, ?_⟩
  rw [decide_eq_true rfl]
  repeat (first | refine za ?_ | refine zb ?_ | refine zj ?_ | refine zm ?_ | refine zn ?_ | refine zp ?_ | refine zr ?_ | refine zu ?_ | refine zx ?_ | refine zy ?_ | refine zz ?_ | refine zzd ?_)
  refine x_call rfl rfl rfl trivial (law_OverPairsS hPs2 (by unfold fromM; simp only [List.length_take, List.length_drop]; omega) (fun p hp => hmay2 p (List.mem_of_mem_drop (List.mem_of_mem_take hp)))) ?_
  rintro _ H13 ⟨rfl, hk13⟩
  refine ⟨trivial, ?_⟩
  have kn13 : Keep Non H H13 := kn12.old hk13 (fun z hz e => by have := e.1; omega)
  have hLj := (hLi.keepN (hq11.non_trans hq12)).keep hk13 (fun e => by have := e.1; omega)
  repeat (first | refine za ?_ | refine zb ?_ | refine zj ?_ | refine zm ?_ | refine zn ?_ | refine zp ?_ | refine zr ?_ | refine zu ?_ | refine zx ?_ | refine zy ?_ | refine zz ?_ | refine zzd ?_)
  refine x_call rfl rfl rfl trivial (law_KeptBytes hLj (hK.keepN kn13)) ?_
  rintro _ _ ⟨rfl, rfl⟩
  refine ⟨trivial, ?_⟩
  rw [show (k == k) = true by simp]
  repeat (first | refine za ?_ | refine zb ?_ | refine zj ?_ | refine zm ?_ | refine zn ?_ | refine zp ?_ | refine zr ?_ | refine zu ?_ | refine zx ?_ | refine zy ?_ | refine zz ?_ | refine zzd ?_)
  exact cw_ret1 rfl rfl ⟨rfl, kn13⟩
end Go.Proofs.Ytaloblomncjgkaa.X
