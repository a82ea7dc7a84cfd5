/- The package model, more: what is copied out, what is made of a row. -/
import Derived.Test.YtaloblomncjgkaaMod
import Derived.Test.YtaloblomncjgkaaPrs5
namespace Go.Proofs.Ytaloblomncjgkaa.X
open Go Go.Proofs
set_option linter.unusedVariables false
set_option linter.unusedSimpArgs false
set_option maxRecDepth 10000
set_option maxHeartbeats 2000000

theorem model_copied {k : Value} {x : Int} {bs : Bytes} {H : Heap} (hK : Bs H k bs) (hl : bs.length ≤ 1000000) : Ret Try.prog 88 [.agg [k, .int .u64 x].toArray] H (fun v H' => Keep Non H H' ∧ ∃ c, v = .agg [c, .int .u64 x].toArray ∧ Own 1 H' c bs.length (bvs bs) ∧ Fresh H c) := by
  refine ret_of Try.func88 rfl rfl rfl rfl ?_
  intro w0
  repeat (first | refine zt ?_ | refine zx ?_ | refine zy ?_ | refine zz ?_ | refine zzd ?_)
  refine x_box rfl rfl rfl trivial ?_
  intro H1 hn1
  refine ⟨trivial, ?_⟩
  repeat (first | refine zt ?_ | refine zx ?_ | refine zy ?_ | refine zz ?_ | refine zzd ?_)
  refine x_alloc rfl rfl trivial ?_
  intro H2 hn2
  refine ⟨trivial, ?_⟩
  have hB1 := hn1.blk.keep hn2.keep (fun h => h)
  have hk2 := hn2.old hn1.keep
  have hK2 := hK.keepN hk2
  have a1 : cel H2 H.size 0 = some k := by rw [hB1.cel]; rfl
  have a2 : cel H2 H.size 1 = some (.int .u64 x) := by rw [hB1.cel]; rfl
  have hkr := Keep.refl Non H2
  repeat (first | refine zt ?_ | refine zx ?_ | refine zy ?_ | refine zz ?_ | refine zzd ?_)
  refine cw_held (fun _ => Keep Non H2) ⟨[2, 6], [(1, 0), (4, 0)]⟩ (.op 0 (.op 1 (.op 3 (.op 4 (.op 2 (.op 5 (.op 6 (.nil)))))))) panicOk_body mixed (by kernel_rfl) ?_
  repeat (first | refine zt ?_ | refine zx ?_ | refine zy ?_ | refine zz ?_ | refine zzd ?_)
  refine x_load rfl rfl (hpmk rfl (fun _ hk => hk.cel a1 (fun h => h))) rfl (okq_load rfl rfl (by assumption)) ?_
  repeat (first | refine zt ?_ | refine zx ?_ | refine zy ?_ | refine zz ?_ | refine zzd ?_)
  refine x_load rfl rfl (hpmk rfl (fun _ hk => hk.cel a2 (fun h => h))) rfl (okq_load rfl rfl (by assumption)) ?_
  refine x_call rfl rfl rfl ⟨rfl, rfl⟩ (slices_Clone hK2 (by omega)) ?_
  rintro c H3 ⟨hk3, hown, hf3⟩
  refine ⟨okm_keep hk3 (fun _ _ h => h), ?_⟩
  repeat (first | refine zt ?_ | refine zx ?_ | refine zy ?_ | refine zz ?_ | refine zzd ?_)
  refine x_build (cs := [c, .int .u64 (x)]) rfl rfl rfl (two_oneC (isSl_oneC hown.sl)) rfl (okq_reg rfl rfl) ?_
  refine x_stores rfl rfl rfl rfl (two_oneC' (isSl_oneC hown.sl)) (hn2.blk.keep hk3 (fun h => h)) (by simp) ⟨rfl, rfl⟩ ?_
  intro H4 hB4 hk4 hs4
  refine ⟨okm_free (fun c => by cases c <;> kernel_rfl), ?_⟩
  have hs1 := hn1.size
  have hs2 := hn2.size
  have hk34 := keep_at (hk2.non_trans hk3) hk4 (by omega)
  repeat (first | refine zt ?_ | refine zx ?_ | refine zy ?_ | refine zz ?_ | refine zzd ?_)
  repeat (first | refine zt ?_ | refine zx ?_ | refine zy ?_ | refine zz ?_ | refine zzd ?_)
  refine cw_retc rfl rfl rfl (hB4.cels 0 2 (by simp [putL])) ⟨hk34, c, rfl, hown.keep hk4 (fun hc e => ?_), fun hc => ?_⟩
  · have := hf3 hc
    have : sb c = H1.size := e
    omega
  · have := hf3 hc
    omega

theorem model_Select {K : Role} {b : Nat} {l : List Pr} {H : Heap} (i : Int) (hM : Mo K H b l) (hl : l.length ≤ 1000000) (hk : ∀ p ∈ l, p.1.length ≤ 1000000) : Ret Try.prog 58 [ptr b 0, .int .i64 i] H (fun v H' => PairA H H' (selI l i) v) := by
  refine ret_of Try.func58 rfl rfl rfl rfl ?_
  intro w0
  repeat (first | refine za ?_ | refine zb ?_ | refine zj ?_ | refine zm ?_ | refine zn ?_ | refine zs ?_ | refine zt ?_ | refine zu ?_ | refine zv ?_ | refine zw ?_ | refine zx ?_ | refine zy ?_ | refine zz ?_ | refine zzc ?_ | refine zzd ?_ | refine zzf ?_ | refine zzg ?_)
  refine x_alloc rfl rfl trivial ?_
  intro H1 hn1
  refine ⟨trivial, ?_⟩
  have hk1 := hn1.keep
  have hM1 := hM.keepN hk1
  obtain ⟨u, hc0, hP⟩ := hM1.ps
  have sU := hP.sl
  have cU := sU.cap
  repeat (first | refine za ?_ | refine zb ?_ | refine zj ?_ | refine zm ?_ | refine zn ?_ | refine zs ?_ | refine zt ?_ | refine zu ?_ | refine zv ?_ | refine zw ?_ | refine zx ?_ | refine zy ?_ | refine zz ?_ | refine zzc ?_ | refine zzd ?_ | refine zzf ?_ | refine zzg ?_)
  refine x_split 8 rfl (fun h1 => ?_) (fun h1 => ?_) <;> (try simp at h1)
  · repeat (first | refine za ?_ | refine zb ?_ | refine zj ?_ | refine zm ?_ | refine zn ?_ | refine zs ?_ | refine zt ?_ | refine zu ?_ | refine zv ?_ | refine zw ?_ | refine zx ?_ | refine zy ?_ | refine zz ?_ | refine zzc ?_ | refine zzd ?_ | refine zzf ?_ | refine zzg ?_)
    rw [selI_none (.inl h1)]
    refine x_build (cs := [.slice none 0 0, .int .u64 0]) rfl rfl rfl (by simp) rfl trivial ?_
    refine x_stores rfl rfl rfl rfl (by simp [oneC, Value.oneCell']) hn1.blk (by simp) trivial ?_
    intro H2 hB2 hk2 hs2
    refine ⟨trivial, ?_⟩
    repeat (first | refine za ?_ | refine zb ?_ | refine zj ?_ | refine zm ?_ | refine zn ?_ | refine zs ?_ | refine zt ?_ | refine zu ?_ | refine zv ?_ | refine zw ?_ | refine zx ?_ | refine zy ?_ | refine zz ?_ | refine zzc ?_ | refine zzd ?_ | refine zzf ?_ | refine zzg ?_)
    exact cw_retc2 rfl rfl rfl rfl (hB2.cels 0 2 (by simp [putL])) ⟨keep_at hk1 hk2 (Nat.le_refl _), _, rfl, Own.nil _ _, Fresh.nil _⟩
  · repeat (first | refine za ?_ | refine zb ?_ | refine zj ?_ | refine zm ?_ | refine zn ?_ | refine zs ?_ | refine zt ?_ | refine zu ?_ | refine zv ?_ | refine zw ?_ | refine zx ?_ | refine zy ?_ | refine zz ?_ | refine zzc ?_ | refine zzd ?_ | refine zzf ?_ | refine zzg ?_)
    refine x_call rfl rfl rfl trivial (model_Len hM1) ?_
    rintro _ _ ⟨rfl, rfl⟩
    refine ⟨trivial, ?_⟩
    repeat (first | refine za ?_ | refine zb ?_ | refine zj ?_ | refine zm ?_ | refine zn ?_ | refine zs ?_ | refine zt ?_ | refine zu ?_ | refine zv ?_ | refine zw ?_ | refine zx ?_ | refine zy ?_ | refine zz ?_ | refine zzc ?_ | refine zzd ?_ | refine zzf ?_ | refine zzg ?_)
    refine cw_cond rfl (fun h2 => ?_) (fun h2 => ?_) <;> (try simp at h2)
    · repeat (first | refine za ?_ | refine zb ?_ | refine zj ?_ | refine zm ?_ | refine zn ?_ | refine zs ?_ | refine zt ?_ | refine zu ?_ | refine zv ?_ | refine zw ?_ | refine zx ?_ | refine zy ?_ | refine zz ?_ | refine zzc ?_ | refine zzd ?_ | refine zzf ?_ | refine zzg ?_)
      rw [selI_none (.inr (by omega))]
      refine x_build (cs := [.slice none 0 0, .int .u64 0]) rfl rfl rfl (by simp) rfl trivial ?_
      refine x_stores rfl rfl rfl rfl (by simp [oneC, Value.oneCell']) hn1.blk (by simp) trivial ?_
      intro H2 hB2 hk2 hs2
      refine ⟨trivial, ?_⟩
      repeat (first | refine za ?_ | refine zb ?_ | refine zj ?_ | refine zm ?_ | refine zn ?_ | refine zs ?_ | refine zt ?_ | refine zu ?_ | refine zv ?_ | refine zw ?_ | refine zx ?_ | refine zy ?_ | refine zz ?_ | refine zzc ?_ | refine zzd ?_ | refine zzf ?_ | refine zzg ?_)
      exact cw_retc2 rfl rfl rfl rfl (hB2.cels 0 2 (by simp [putL])) ⟨keep_at hk1 hk2 (Nat.le_refl _), _, rfl, Own.nil _ _, Fresh.nil _⟩
    · obtain ⟨p, hp, hs⟩ := selI_some (l := l) (i := i) (by omega) (by omega)
      rw [hs]
      obtain ⟨kk, a1, a2, a3⟩ := hP.at_ _ p hp
      repeat (first | refine za ?_ | refine zb ?_ | refine zj ?_ | refine zm ?_ | refine zn ?_ | refine zs ?_ | refine zt ?_ | refine zu ?_ | refine zv ?_ | refine zw ?_ | refine zx ?_ | refine zy ?_ | refine zz ?_ | refine zzc ?_ | refine zzd ?_ | refine zzf ?_ | refine zzg ?_)
      refine x_load rfl rfl (hpmt (hc0)) rfl trivial ?_
      repeat (first | refine za ?_ | refine zb ?_ | refine zj ?_ | refine zm ?_ | refine zn ?_ | refine zs ?_ | refine zt ?_ | refine zu ?_ | refine zv ?_ | refine zw ?_ | refine zx ?_ | refine zy ?_ | refine zz ?_ | refine zzc ?_ | refine zzd ?_ | refine zzf ?_ | refine zzg ?_)
      refine x_loads (cs := [kk, .int .u64 p.2]) rfl rfl rfl (hpmt (cels_two a1 a2)) rfl trivial ?_
      repeat (first | refine za ?_ | refine zb ?_ | refine zj ?_ | refine zm ?_ | refine zn ?_ | refine zs ?_ | refine zt ?_ | refine zu ?_ | refine zv ?_ | refine zw ?_ | refine zx ?_ | refine zy ?_ | refine zz ?_ | refine zzc ?_ | refine zzd ?_ | refine zzf ?_ | refine zzg ?_)
      refine x_call rfl rfl rfl trivial (model_copied a3 (hk p (List.mem_of_getElem? hp))) ?_
      rintro _ H2 ⟨hk2, c, rfl, hc2, hf2⟩
      refine ⟨trivial, ?_⟩
      refine x_stores rfl rfl rfl rfl (two_oneC' (isSl_oneC hc2.sl)) (hn1.blk.keep hk2 (fun h => h)) (by simp) trivial ?_
      intro H3 hB3 hk3 hs3
      refine ⟨trivial, ?_⟩
      have := hn1.size
      repeat (first | refine za ?_ | refine zb ?_ | refine zj ?_ | refine zm ?_ | refine zn ?_ | refine zs ?_ | refine zt ?_ | refine zu ?_ | refine zv ?_ | refine zw ?_ | refine zx ?_ | refine zy ?_ | refine zz ?_ | refine zzc ?_ | refine zzd ?_ | refine zzf ?_ | refine zzg ?_)
      exact cw_retc2 rfl rfl rfl rfl (hB3.cels 0 2 (by simp [putL])) ⟨keep_at (hk1.non_trans hk2) hk3 (Nat.le_refl _), c, rfl, hc2.keep hk3 (fun hc e => by have := hf2 hc; omega), fun hc => by have := hf2 hc; omega⟩

/-- the first pairs from a key on -/
def fromM (l : List Pr) (k : Bytes) (most : Int) : List Pr := (l.drop (rank l k)).take most.toNat

theorem model_From {K : Role} {b : Nat} {vk : Value} {l : List Pr} {k : Bytes} {H : Heap} (most : Int) (hM : Mo K H b l) (hr : rises l = true) (hl : l.length ≤ 10000) (hkl : ∀ p ∈ l, p.1.length ≤ 1000000) (hK : Bs H vk k) :
    Ret Try.prog 54 [ptr b 0, vk, .int .i64 most] H (fun v H' => Keep Non H H' ∧ Po H.size H' v (fromM l k most)) := by
  have hle := rank_le l k
  refine ret_of Try.func54 rfl rfl rfl rfl ?_
  intro w0
  repeat (first | refine za ?_ | refine zb ?_ | refine zc ?_ | refine zj ?_ | refine zl ?_ | refine zm ?_ | refine zn ?_ | refine zr ?_ | refine zs ?_ | refine zt ?_ | refine zu ?_ | refine zv ?_ | refine zw ?_ | refine zx ?_ | refine zy ?_ | refine zz ?_ | refine zza ?_ | refine zzb ?_ | refine zzc ?_ | refine zzd ?_ | refine zze ?_ | refine zzf ?_ | refine zzg ?_)
  refine x_call rfl rfl rfl trivial (model_find hM hr (by omega) hK) ?_
  rintro _ H1 ⟨hk1, rfl⟩
  refine ⟨trivial, ?_⟩
  generalize hrk : rank l k = r at *
  repeat (first | refine za ?_ | refine zb ?_ | refine zc ?_ | refine zj ?_ | refine zl ?_ | refine zm ?_ | refine zn ?_ | refine zr ?_ | refine zs ?_ | refine zt ?_ | refine zu ?_ | refine zv ?_ | refine zw ?_ | refine zx ?_ | refine zy ?_ | refine zz ?_ | refine zza ?_ | refine zzb ?_ | refine zzc ?_ | refine zzd ?_ | refine zze ?_ | refine zzf ?_ | refine zzg ?_)
  refine cw_loop (fun s : Nat × Value => [(0, ptr b 0), (2, .int .i64 most), (7, .int .i64 ((r + s.1 : Nat) : Int)), (9, s.2)]) (fun s H' => r + s.1 ≤ l.length ∧ s.1 ≤ most.toNat ∧ Keep Non H H' ∧ Po H.size H' s.2 ((l.drop r).take s.1)) (fun s => l.length - s.1) (0, _) (by repeat (first | exact True.intro | refine ⟨rfl, ?_⟩)) ⟨by simpa using hle, Nat.zero_le _, hk1, Po.nil _ _⟩ ?_
  rintro ⟨j, v⟩ H2 ⟨h1, h2, hk2, hP⟩
  dsimp only at h1 h2 hP ⊢
  have hM2 := hM.keepN hk2
  obtain ⟨u, hc0, hPu⟩ := hM2.ps
  have sU := hPu.sl
  have cU := sU.cap
  have hlj : ((l.drop r).take j).length = j := by simp; omega
  have sV := hP.ps.sl
  rw [hlj] at sV
  repeat (first | refine za ?_ | refine zb ?_ | refine zc ?_ | refine zj ?_ | refine zl ?_ | refine zm ?_ | refine zn ?_ | refine zr ?_ | refine zs ?_ | refine zt ?_ | refine zu ?_ | refine zv ?_ | refine zw ?_ | refine zx ?_ | refine zy ?_ | refine zz ?_ | refine zza ?_ | refine zzb ?_ | refine zzc ?_ | refine zzd ?_ | refine zze ?_ | refine zzf ?_ | refine zzg ?_)
  refine x_call rfl rfl rfl trivial (model_Len hM2) ?_
  rintro _ _ ⟨rfl, rfl⟩
  refine ⟨trivial, ?_⟩
  repeat (first | refine za ?_ | refine zb ?_ | refine zc ?_ | refine zj ?_ | refine zl ?_ | refine zm ?_ | refine zn ?_ | refine zr ?_ | refine zs ?_ | refine zt ?_ | refine zu ?_ | refine zv ?_ | refine zw ?_ | refine zx ?_ | refine zy ?_ | refine zz ?_ | refine zza ?_ | refine zzb ?_ | refine zzc ?_ | refine zzd ?_ | refine zze ?_ | refine zzf ?_ | refine zzg ?_)
  refine x_split 20 rfl (fun h3 => ?_) (fun h3 => ?_) <;> (try simp at h3)
  · repeat (first | refine za ?_ | refine zb ?_ | refine zc ?_ | refine zj ?_ | refine zl ?_ | refine zm ?_ | refine zn ?_ | refine zr ?_ | refine zs ?_ | refine zt ?_ | refine zu ?_ | refine zv ?_ | refine zw ?_ | refine zx ?_ | refine zy ?_ | refine zz ?_ | refine zza ?_ | refine zzb ?_ | refine zzc ?_ | refine zzd ?_ | refine zze ?_ | refine zzf ?_ | refine zzg ?_)
    refine cw_cond rfl (fun h4 => ?_) (fun h4 => ?_) <;> (try simp at h4)
    · obtain ⟨p, hp⟩ := getp (l := l) (j := r + j) (by omega)
      obtain ⟨kk, a1, a2, a3⟩ := hPu.at_ _ p hp
      obtain ⟨q, hq, ho, hd⟩ := hP.row
      repeat (first | refine za ?_ | refine zb ?_ | refine zc ?_ | refine zj ?_ | refine zl ?_ | refine zm ?_ | refine zn ?_ | refine zr ?_ | refine zs ?_ | refine zt ?_ | refine zu ?_ | refine zv ?_ | refine zw ?_ | refine zx ?_ | refine zy ?_ | refine zz ?_ | refine zza ?_ | refine zzb ?_ | refine zzc ?_ | refine zzd ?_ | refine zze ?_ | refine zzf ?_ | refine zzg ?_)
      refine x_load rfl rfl (hpmt (hc0)) rfl trivial ?_
      repeat (first | refine za ?_ | refine zb ?_ | refine zc ?_ | refine zj ?_ | refine zl ?_ | refine zm ?_ | refine zn ?_ | refine zr ?_ | refine zs ?_ | refine zt ?_ | refine zu ?_ | refine zv ?_ | refine zw ?_ | refine zx ?_ | refine zy ?_ | refine zz ?_ | refine zza ?_ | refine zzb ?_ | refine zzc ?_ | refine zzd ?_ | refine zze ?_ | refine zzf ?_ | refine zzg ?_)
      refine x_loads (cs := [kk, .int .u64 p.2]) rfl rfl rfl (hpmt (cels_two a1 a2)) rfl trivial ?_
      repeat (first | refine za ?_ | refine zb ?_ | refine zc ?_ | refine zj ?_ | refine zl ?_ | refine zm ?_ | refine zn ?_ | refine zr ?_ | refine zs ?_ | refine zt ?_ | refine zu ?_ | refine zv ?_ | refine zw ?_ | refine zx ?_ | refine zy ?_ | refine zz ?_ | refine zza ?_ | refine zzb ?_ | refine zzc ?_ | refine zzd ?_ | refine zze ?_ | refine zzf ?_ | refine zzg ?_)
      refine x_call rfl rfl rfl trivial (model_copied a3 (hkl p (List.mem_of_getElem? hp))) ?_
      rintro _ H3 ⟨hk3, c, rfl, hc3, hf3⟩
      refine ⟨trivial, ?_⟩
      refine x_buildSliceS1 (by rfl) rfl rfl (by omega) (by rfl) rfl trivial ?_
      intro H4 hn4
      refine ⟨trivial, ?_⟩
      have hk4 := hn4.old hk3
      rw [hlj] at ho
      refine x_append (v := v) (by rfl) (by rfl) (by rfl) rfl rfl rfl (ho.keep hk4 (fun _ h => h)) (isSl_some (Nat.le_refl _) (by omega)) (m := 1) (cx := [c, .int .u64 p.2]) rfl (hn4.blk.cels 0 2 (by simp)) (two_oneC' (isSl_oneC hc3.sl)) (by omega) rfl trivial ?_
      intro v' H5 hap5
      refine ⟨trivial, ?_⟩
      rw [← hlj] at ho hap5
      have hP5 : Po H.size H5 v' ((l.drop r).take j ++ [p]) := Po.snoc hP.fresh hq ho hd hk2.size hk4 (hc3.keep hn4.keep (fun _ h => h)) hf3 hap5
      have hk5 : Keep Non H H5 := (hk2.non_trans hk4).old hap5.keep (fun z hz e => by have := hP.fresh (by omega); have := e.1; omega)
      have et : (l.drop r).take (j + 1) = (l.drop r).take j ++ [p] := by
        rw [List.take_add_one, List.getElem?_drop, hp]
        rfl
      rw [← et] at hP5
      repeat (first | refine za ?_ | refine zb ?_ | refine zc ?_ | refine zj ?_ | refine zl ?_ | refine zm ?_ | refine zn ?_ | refine zr ?_ | refine zs ?_ | refine zt ?_ | refine zu ?_ | refine zv ?_ | refine zw ?_ | refine zx ?_ | refine zy ?_ | refine zz ?_ | refine zza ?_ | refine zzb ?_ | refine zzc ?_ | refine zzd ?_ | refine zze ?_ | refine zzf ?_ | refine zzg ?_)
      exact nw_round (j + 1, v') (by repeat (first | exact True.intro | refine ⟨rfl, ?_⟩)) ⟨by show r + (j + 1) ≤ _; omega, by show j + 1 ≤ _; omega, hk5, hP5⟩ (by show l.length - (j + 1) < l.length - j; omega)
    · repeat (first | refine za ?_ | refine zb ?_ | refine zc ?_ | refine zj ?_ | refine zl ?_ | refine zm ?_ | refine zn ?_ | refine zr ?_ | refine zs ?_ | refine zt ?_ | refine zu ?_ | refine zv ?_ | refine zw ?_ | refine zx ?_ | refine zy ?_ | refine zz ?_ | refine zza ?_ | refine zzb ?_ | refine zzc ?_ | refine zzd ?_ | refine zze ?_ | refine zzf ?_ | refine zzg ?_)
      refine cw_ret1 rfl rfl ⟨hk2, ?_⟩
      have e : j = most.toNat := by omega
      unfold fromM
      rw [hrk, ← e]
      exact hP
  · repeat (first | refine za ?_ | refine zb ?_ | refine zc ?_ | refine zj ?_ | refine zl ?_ | refine zm ?_ | refine zn ?_ | refine zr ?_ | refine zs ?_ | refine zt ?_ | refine zu ?_ | refine zv ?_ | refine zw ?_ | refine zx ?_ | refine zy ?_ | refine zz ?_ | refine zza ?_ | refine zzb ?_ | refine zzc ?_ | refine zzd ?_ | refine zze ?_ | refine zzf ?_ | refine zzg ?_)
    refine cw_ret1 rfl rfl ⟨hk2, ?_⟩
    unfold fromM
    rw [hrk, List.take_of_length_le (by simp; omega)]
    rw [List.take_of_length_le (by simp; omega)] at hP
    exact hP

theorem rank_nil (l : List Pr) : rank l [] = 0 := by
  cases l with
  | nil => rfl
  | cons p l =>
    have h : ¬ cmpB p.1 [] = -1 := by rw [cmp_nil_r]; split <;> omega
    unfold rank
    rw [if_neg h]
theorem model_All {K : Role} {b : Nat} {l : List Pr} {H : Heap} (hM : Mo K H b l) (hr : rises l = true) (hl : l.length ≤ 10000) (hkl : ∀ p ∈ l, p.1.length ≤ 1000000) :
    Ret Try.prog 68 [ptr b 0] H (fun v H' => Keep Non H H' ∧ Po H.size H' v l) := by
  refine ret_of Try.func68 rfl rfl rfl rfl ?_
  intro w0
  repeat (first | refine za ?_ | refine zb ?_ | refine zx ?_ | refine zy ?_ | refine zz ?_ | refine zzd ?_)
  refine x_call rfl rfl rfl trivial (model_Len hM) ?_
  rintro _ _ ⟨rfl, rfl⟩
  refine ⟨trivial, ?_⟩
  refine x_call rfl rfl rfl trivial (model_From (k := []) l.length hM hr hl hkl (Bs.nil H)) ?_
  rintro v H1 ⟨hk1, hP⟩
  refine ⟨trivial, ?_⟩
  have e : fromM l [] l.length = l := by unfold fromM; rw [rank_nil]; simp
  rw [e] at hP
  repeat (first | refine za ?_ | refine zb ?_ | refine zx ?_ | refine zy ?_ | refine zz ?_ | refine zzd ?_)
  exact cw_ret1 rfl rfl ⟨hk1, hP⟩

theorem newM_rises' (l : List Pr) : rises (newM l) = true := newM_rises l
theorem model_New {va : Value} {l : List Pr} {H : Heap} (hA : Ps H va l) (hl : l.length ≤ 10000) (hk : ∀ p ∈ l, p.1.length ≤ 65535) : Ret Try.prog 45 [va] H (fun v H' => Keep Non H H' ∧ ∃ b K, v = ptr b 0 ∧ Role.From K H.size ∧ Mo K H' b (newM l)) := by
  have sA := hA.sl
  have cA := sA.cap
  refine ret_of Try.func45 rfl rfl rfl rfl ?_
  intro w0
  repeat (first | refine za ?_ | refine zb ?_ | refine zc ?_ | refine zj ?_ | refine zl ?_ | refine zt ?_ | refine zv ?_ | refine zw ?_ | refine zx ?_ | refine zy ?_ | refine zz ?_ | refine zza ?_ | refine zzb ?_ | refine zzc ?_ | refine zzd ?_ | refine zze ?_ | refine zzf ?_ | refine zzg ?_)
  refine x_build (cs := [.slice none 0 0]) rfl rfl rfl (by simp) rfl trivial ?_
  refine x_box rfl rfl rfl trivial ?_
  intro H1 hn1
  refine ⟨trivial, ?_⟩
  have hs1 := hn1.size
  have hR : Role.set (fun _ => 0) H.size 1 H.size = 1 := Role.set_at _ _ _
  repeat (first | refine za ?_ | refine zb ?_ | refine zc ?_ | refine zj ?_ | refine zl ?_ | refine zt ?_ | refine zv ?_ | refine zw ?_ | refine zx ?_ | refine zy ?_ | refine zz ?_ | refine zza ?_ | refine zzb ?_ | refine zzc ?_ | refine zzd ?_ | refine zze ?_ | refine zzf ?_ | refine zzg ?_)
  refine cw_loop (fun s : Nat × Role => [(3, ptr H.size 0), (8, va), (9, .int .i64 l.length), (10, .int .i64 s.1)]) (fun s H' => s.1 ≤ l.length ∧ Keep Non H H' ∧ s.2.From H.size ∧ Mo s.2 H' H.size (newM (l.take s.1))) (fun s => l.length - s.1) (0, Role.set (fun _ => 0) H.size 1) (by repeat (first | exact True.intro | refine ⟨rfl, ?_⟩)) ⟨Nat.zero_le _, hn1.keep, fun x hx => ?_, ⟨fun x hx => ?_, hR, .slice none 0 0, [], hn1.blk, Own.nil 2 _, fun h => by simp [sc] at h, Pk.nil _⟩⟩ ?_
  · by_cases e : x = H.size
    · omega
    · dsimp only at hx
      rw [Role.set_ne _ e] at hx; exact absurd rfl hx
  · by_cases e : x = H.size
    · omega
    · dsimp only at hx
      rw [Role.set_ne _ e] at hx; exact absurd rfl hx
  rintro ⟨j, K⟩ H2 ⟨hj, hk2, hF, hM⟩
  dsimp only at hj hF hM ⊢
  repeat (first | refine za ?_ | refine zb ?_ | refine zc ?_ | refine zj ?_ | refine zl ?_ | refine zt ?_ | refine zv ?_ | refine zw ?_ | refine zx ?_ | refine zy ?_ | refine zz ?_ | refine zza ?_ | refine zzb ?_ | refine zzc ?_ | refine zzd ?_ | refine zze ?_ | refine zzf ?_ | refine zzg ?_)
  refine cw_cond rfl (fun h1 => ?_) (fun h1 => ?_) <;> (try simp at h1)
  · obtain ⟨p, hp⟩ := getp (l := l) h1
    obtain ⟨kk, a1, a2, a3⟩ := (hA.keepN hk2).at_ j p hp
    have hpl := hk p (List.mem_of_getElem? hp)
    have hnl := newM_length (l.take j)
    have hjl : (l.take j).length = j := by simp; omega
    repeat (first | refine za ?_ | refine zb ?_ | refine zc ?_ | refine zj ?_ | refine zl ?_ | refine zt ?_ | refine zv ?_ | refine zw ?_ | refine zx ?_ | refine zy ?_ | refine zz ?_ | refine zza ?_ | refine zzb ?_ | refine zzc ?_ | refine zzd ?_ | refine zze ?_ | refine zzf ?_ | refine zzg ?_)
    refine x_loads (cs := [kk, .int .u64 p.2]) rfl rfl rfl (hpmt (cels_two a1 a2)) rfl trivial ?_
    refine x_alloc rfl rfl trivial ?_
    intro H3 hn3
    refine ⟨trivial, ?_⟩
    refine x_stores rfl rfl rfl rfl (two_oneC' (isSl_oneC a3.sl)) hn3.blk (by simp) trivial ?_
    intro H4 hB4 hk4 hs4
    refine ⟨trivial, ?_⟩
    have hk24 : Keep Non H2 H4 := keep_at hn3.keep hk4 (Nat.le_refl _)
    have c0 : cel H4 H2.size 0 = some kk := by rw [hB4.cel]; rfl
    have c1 : cel H4 H2.size 1 = some (.int .u64 p.2) := by rw [hB4.cel]; rfl
    repeat (first | refine za ?_ | refine zb ?_ | refine zc ?_ | refine zj ?_ | refine zl ?_ | refine zt ?_ | refine zv ?_ | refine zw ?_ | refine zx ?_ | refine zy ?_ | refine zz ?_ | refine zza ?_ | refine zzb ?_ | refine zzc ?_ | refine zzd ?_ | refine zze ?_ | refine zzf ?_ | refine zzg ?_)
    refine x_load rfl rfl (hpmt (c0)) rfl trivial ?_
    repeat (first | refine za ?_ | refine zb ?_ | refine zc ?_ | refine zj ?_ | refine zl ?_ | refine zt ?_ | refine zv ?_ | refine zw ?_ | refine zx ?_ | refine zy ?_ | refine zz ?_ | refine zza ?_ | refine zzb ?_ | refine zzc ?_ | refine zzd ?_ | refine zze ?_ | refine zzf ?_ | refine zzg ?_)
    refine x_load rfl rfl (hpmt (c1)) rfl trivial ?_
    refine x_call rfl rfl rfl trivial (model_Put p.2 (hM.keepN hk24) (newM_rises _) (by omega) (a3.keepN hk24) hpl) ?_
    rintro _ H5 ⟨rfl, hk5, K', hE, hM5⟩
    refine ⟨trivial, ?_⟩
    have hk4' := hk2.non_trans hk24
    rw [← newM_take hp] at hM5
    repeat (first | refine za ?_ | refine zb ?_ | refine zc ?_ | refine zj ?_ | refine zl ?_ | refine zt ?_ | refine zv ?_ | refine zw ?_ | refine zx ?_ | refine zy ?_ | refine zz ?_ | refine zza ?_ | refine zzb ?_ | refine zzc ?_ | refine zzd ?_ | refine zze ?_ | refine zzf ?_ | refine zzg ?_)
    exact nw_round (j + 1, K') (by repeat (first | exact True.intro | refine ⟨rfl, ?_⟩)) ⟨by show j + 1 ≤ _; omega, hF.keep hk4' hk5 (fun x e => by rcases e with e | e <;> omega), hF.ext hE hk4'.size, hM5⟩ (by show l.length - (j + 1) < l.length - j; omega)
  · have hje : j = l.length := by omega
    subst hje
    rw [List.take_length] at hM
    repeat (first | refine za ?_ | refine zb ?_ | refine zc ?_ | refine zj ?_ | refine zl ?_ | refine zt ?_ | refine zv ?_ | refine zw ?_ | refine zx ?_ | refine zy ?_ | refine zz ?_ | refine zza ?_ | refine zzb ?_ | refine zzc ?_ | refine zzd ?_ | refine zze ?_ | refine zzf ?_ | refine zzg ?_)
    exact cw_ret1 rfl rfl ⟨hk2, _, K, rfl, hF, hM⟩
end Go.Proofs.Ytaloblomncjgkaa.X
