/- Chapter 15's statements: BurstOrders. -/
import Derived.Test.YtaloblomncjgkaaLBur2
import Derived.Test.YtaloblomncjgkaaKbo
namespace Go.Proofs.Ytaloblomncjgkaa.X
open Go Go.Proofs
set_option linter.unusedVariables false
set_option linter.unusedSimpArgs false
set_option maxRecDepth 10000
set_option maxHeartbeats 2000000

theorem walk_BurstOrders {va : Value} {l : List Pr} {many : Int} {H : Heap} (hA : Ps H va l) : Ret Try.prog 4 [va, .int .i64 many] H (Yes H) := by
  have sA := hA.sl
  have cA := sA.cap
  refine ret_of Try.func4 rfl rfl rfl rfl ?_
  intro w0
  repeat (first | refine za ?_ | refine zb ?_ | refine zc ?_ | refine zd ?_ | refine zg ?_ | refine zj ?_ | refine zl ?_ | refine zm ?_ | refine zn ?_ | refine zo ?_ | refine zr ?_ | refine zt ?_ | refine zu ?_ | refine zv ?_ | refine zw ?_ | refine zx ?_ | refine zy ?_ | refine zz ?_ | refine zza ?_ | refine zzb ?_ | refine zzc ?_ | refine zzd ?_ | refine zze ?_ | refine zzf ?_ | refine zzg ?_)
  refine x_call rfl rfl rfl trivial (law_GreatPairs 40 30 (by omega) hA) ?_
  rintro _ _ ⟨rfl, b1, rfl, h1⟩
  refine ⟨trivial, ?_⟩
  repeat (first | refine za ?_ | refine zb ?_ | refine zc ?_ | refine zd ?_ | refine zg ?_ | refine zj ?_ | refine zl ?_ | refine zm ?_ | refine zn ?_ | refine zo ?_ | refine zr ?_ | refine zt ?_ | refine zu ?_ | refine zv ?_ | refine zw ?_ | refine zx ?_ | refine zy ?_ | refine zz ?_ | refine zza ?_ | refine zzb ?_ | refine zzc ?_ | refine zzd ?_ | refine zze ?_ | refine zzf ?_ | refine zzg ?_)
  cases b1 with
  | true =>
    repeat (first | refine za ?_ | refine zb ?_ | refine zc ?_ | refine zd ?_ | refine zg ?_ | refine zj ?_ | refine zl ?_ | refine zm ?_ | refine zn ?_ | refine zo ?_ | refine zr ?_ | refine zt ?_ | refine zu ?_ | refine zv ?_ | refine zw ?_ | refine zx ?_ | refine zy ?_ | refine zz ?_ | refine zza ?_ | refine zzb ?_ | refine zzc ?_ | refine zzd ?_ | refine zze ?_ | refine zzf ?_ | refine zzg ?_)
    refine x_call rfl rfl rfl trivial (awake15 _) ?_
    rintro _ Hz ⟨rfl, hkz⟩
    refine ⟨trivial, ?_⟩
    repeat (first | refine za ?_ | refine zb ?_ | refine zc ?_ | refine zd ?_ | refine zg ?_ | refine zj ?_ | refine zl ?_ | refine zm ?_ | refine zn ?_ | refine zo ?_ | refine zr ?_ | refine zt ?_ | refine zu ?_ | refine zv ?_ | refine zw ?_ | refine zx ?_ | refine zy ?_ | refine zz ?_ | refine zza ?_ | refine zzb ?_ | refine zzc ?_ | refine zzd ?_ | refine zze ?_ | refine zzf ?_ | refine zzg ?_)
    exact cw_ret1 rfl rfl ⟨rfl, (Keep.refl Non H).non_trans hkz⟩
  | false =>
    obtain ⟨hl, hk⟩ := h1 rfl
    repeat (first | refine za ?_ | refine zb ?_ | refine zc ?_ | refine zd ?_ | refine zg ?_ | refine zj ?_ | refine zl ?_ | refine zm ?_ | refine zn ?_ | refine zo ?_ | refine zr ?_ | refine zt ?_ | refine zu ?_ | refine zv ?_ | refine zw ?_ | refine zx ?_ | refine zy ?_ | refine zz ?_ | refine zza ?_ | refine zzb ?_ | refine zzc ?_ | refine zzd ?_ | refine zze ?_ | refine zzf ?_ | refine zzg ?_)
    refine x_call rfl rfl rfl trivial (tree_New 5000) ?_
    rintro v1 H1 h1
    refine ⟨trivial, ?_⟩
    rcases h1 with ⟨h1, _⟩ | ⟨_, _, hk1, b, G1, rfl, hF1, hB1⟩
    · omega
    have hM1 : Mine H G1 H1 b 5000 .nil := ⟨hB1, hF1, hk1⟩
    repeat (first | refine za ?_ | refine zb ?_ | refine zc ?_ | refine zd ?_ | refine zg ?_ | refine zj ?_ | refine zl ?_ | refine zm ?_ | refine zn ?_ | refine zo ?_ | refine zr ?_ | refine zt ?_ | refine zu ?_ | refine zv ?_ | refine zw ?_ | refine zx ?_ | refine zy ?_ | refine zz ?_ | refine zza ?_ | refine zzb ?_ | refine zzc ?_ | refine zzd ?_ | refine zze ?_ | refine zzf ?_ | refine zzg ?_)
    refine cw_loop (fun i : Nat => [(0, va), (1, .int .i64 many), (5, ptr b 0), (6, .int .i64 i)]) (fun i H' => i ≤ l.length ∧ ∃ G, Mine H G H' b 5000 (puts (l.take i))) (fun i => l.length - i) 0 (by repeat (first | exact True.intro | refine ⟨rfl, ?_⟩)) ⟨Nat.zero_le _, G1, hM1⟩ ?_
    rintro i H2 ⟨hi, G, hM⟩
    have hAp := hA.keepN hM.keep
    repeat (first | refine za ?_ | refine zb ?_ | refine zc ?_ | refine zd ?_ | refine zg ?_ | refine zj ?_ | refine zl ?_ | refine zm ?_ | refine zn ?_ | refine zo ?_ | refine zr ?_ | refine zt ?_ | refine zu ?_ | refine zv ?_ | refine zw ?_ | refine zx ?_ | refine zy ?_ | refine zz ?_ | refine zza ?_ | refine zzb ?_ | refine zzc ?_ | refine zzd ?_ | refine zze ?_ | refine zzf ?_ | refine zzg ?_)
    refine cw_cond rfl (fun h2 => ?_) (fun h2 => ?_) <;> (try simp at h2)
    · obtain ⟨p, hp⟩ : ∃ p, l[i]? = some p := ⟨_, List.getElem?_eq_getElem (by omega)⟩
      obtain ⟨kk, a1, a2, a3⟩ := hAp.at_ i p hp
      have hpl := hk p (List.mem_of_getElem? hp)
      obtain ⟨f1, f2, f3⟩ := puts_facts (g := 30) (by omega) i (l.take i) (by simp; omega) (fun q hq => hk q (List.mem_of_mem_take hq))
      have hcn : (puts (l.take i)).count ≤ 40 := by rw [← hM.bu.len, f2]; have := newM_length (l.take i); simp at this; omega
      obtain ⟨k0, b1, b2, b3⟩ := hA.at_ i p hp
      have hkk : kk = k0 := by have := hM.keep.cel b1 (fun h => h); rw [this] at a1; cases a1; rfl
      have hkr := Keep.refl Non H2
      repeat (first | refine za ?_ | refine zb ?_ | refine zc ?_ | refine zd ?_ | refine zj ?_ | refine zl ?_ | refine zm ?_ | refine zn ?_ | refine zo ?_ | refine zr ?_ | refine zt ?_ | refine zu ?_ | refine zv ?_ | refine zw ?_ | refine zx ?_ | refine zy ?_ | refine zz ?_ | refine zza ?_ | refine zzb ?_ | refine zzc ?_ | refine zze ?_ | refine zzf ?_ | refine zzg ?_)
      refine cw_held (fun _ => Keep Non H2) ⟨[11], [(5, 0), (10, 0)]⟩ (.op 0 (.op 1 (.op 2 (.op 3 (.op 4 (.op 5 (.op 6 (.op 7 (.op 8 (.op 9 (.op 10 (.op 11 (.op 12 (.op 13 (.op 14 (.op 15 (.op 16 (.op 17 (.op 18 (.nil)))))))))))))))))))) panicOk_body mixed (by kernel_rfl) ?_
      repeat (first | refine za ?_ | refine zb ?_ | refine zc ?_ | refine zd ?_ | refine zj ?_ | refine zl ?_ | refine zm ?_ | refine zn ?_ | refine zo ?_ | refine zr ?_ | refine zt ?_ | refine zu ?_ | refine zv ?_ | refine zw ?_ | refine zx ?_ | refine zy ?_ | refine zz ?_ | refine zza ?_ | refine zzb ?_ | refine zzc ?_ | refine zzd ?_ | refine zze ?_ | refine zzf ?_ | refine zzg ?_)
      refine x_load rfl rfl (hpmk rfl (fun _ hk => hk.cel a1 (fun h => h))) rfl (okq_load rfl rfl (by assumption)) ?_
      repeat (first | refine za ?_ | refine zb ?_ | refine zc ?_ | refine zd ?_ | refine zj ?_ | refine zl ?_ | refine zm ?_ | refine zn ?_ | refine zo ?_ | refine zr ?_ | refine zt ?_ | refine zu ?_ | refine zv ?_ | refine zw ?_ | refine zx ?_ | refine zy ?_ | refine zz ?_ | refine zza ?_ | refine zzb ?_ | refine zzc ?_ | refine zzd ?_ | refine zze ?_ | refine zzf ?_ | refine zzg ?_)
      refine x_load rfl rfl (hpmk rfl (fun _ hk => hk.cel a2 (fun h => h))) rfl (okq_load rfl rfl (by assumption)) ?_
      repeat (first | refine za ?_ | refine zb ?_ | refine zc ?_ | refine zd ?_ | refine zj ?_ | refine zl ?_ | refine zm ?_ | refine zn ?_ | refine zo ?_ | refine zr ?_ | refine zt ?_ | refine zu ?_ | refine zv ?_ | refine zw ?_ | refine zx ?_ | refine zy ?_ | refine zz ?_ | refine zza ?_ | refine zzb ?_ | refine zzc ?_ | refine zzd ?_ | refine zze ?_ | refine zzf ?_ | refine zzg ?_)
      refine x_call rfl rfl rfl ⟨rfl, rfl⟩ (mine_put p.2 hM (by omega) a3 (fun hne => hM.off (by rw [hkk]; exact b3.lt hne)) (by omega) (by omega)) ?_
      rintro _ H3 ⟨rfl, hk3, G', hE3, hM3⟩
      refine ⟨okm_free (fun c => by cases c <;> kernel_rfl), ?_⟩
      repeat (first | refine za ?_ | refine zb ?_ | refine zc ?_ | refine zd ?_ | refine zj ?_ | refine zl ?_ | refine zm ?_ | refine zn ?_ | refine zo ?_ | refine zr ?_ | refine zt ?_ | refine zu ?_ | refine zv ?_ | refine zw ?_ | refine zx ?_ | refine zy ?_ | refine zz ?_ | refine zza ?_ | refine zzb ?_ | refine zzc ?_ | refine zzd ?_ | refine zze ?_ | refine zzf ?_ | refine zzg ?_)
      repeat (first | refine za ?_ | refine zb ?_ | refine zc ?_ | refine zd ?_ | refine zg ?_ | refine zj ?_ | refine zl ?_ | refine zm ?_ | refine zn ?_ | refine zo ?_ | refine zr ?_ | refine zt ?_ | refine zu ?_ | refine zv ?_ | refine zw ?_ | refine zx ?_ | refine zy ?_ | refine zz ?_ | refine zza ?_ | refine zzb ?_ | refine zzc ?_ | refine zzd ?_ | refine zze ?_ | refine zzf ?_ | refine zzg ?_)
      refine nw_round (i + 1) (by repeat (first | exact True.intro | refine ⟨rfl, ?_⟩)) ⟨by omega, G', by rw [puts_take hp]; exact hM3⟩ (by omega)
    · have hie : i = l.length := by omega
      subst hie
      rw [List.take_length] at hM
      obtain ⟨f1, f2, f3⟩ := puts_facts (g := 30) (by omega) l.length l rfl hk
      have hcnl := newM_length l
      have hcn : (puts l).count ≤ 40 := by rw [← hM.bu.len, f2]; omega
      have hlc := hM.bu.len
      rw [f2] at hlc
      have hr := newM_rises l
      have hmk := newM_keys hk
      have hnil := Bs.nil H2
      repeat (first | refine za ?_ | refine zb ?_ | refine zc ?_ | refine zd ?_ | refine zg ?_ | refine zj ?_ | refine zl ?_ | refine zm ?_ | refine zn ?_ | refine zo ?_ | refine zr ?_ | refine zt ?_ | refine zu ?_ | refine zv ?_ | refine zw ?_ | refine zx ?_ | refine zy ?_ | refine zz ?_ | refine zza ?_ | refine zzb ?_ | refine zzc ?_ | refine zzd ?_ | refine zze ?_ | refine zzf ?_ | refine zzg ?_)
      refine x_call rfl rfl rfl trivial (tree_From 50 hM.bu (by omega) hnil) ?_
      rw [f2, from_nil, List.take_of_length_le (by show (newM l).length ≤ (50 : Int).toNat; omega)]
      rintro va3 H3 ⟨hk3, hP3⟩
      refine ⟨trivial, ?_⟩
      generalize newM l = w at *
      generalize puts l = t at *
      have hM3 := hM.keepN hk3
      have hA3 := hP3.ps
      have sW := hA3.sl
      have cW := sW.cap
      repeat (first | refine za ?_ | refine zb ?_ | refine zc ?_ | refine zd ?_ | refine zg ?_ | refine zj ?_ | refine zl ?_ | refine zm ?_ | refine zn ?_ | refine zo ?_ | refine zr ?_ | refine zt ?_ | refine zu ?_ | refine zv ?_ | refine zw ?_ | refine zx ?_ | refine zy ?_ | refine zz ?_ | refine zza ?_ | refine zzb ?_ | refine zzc ?_ | refine zzd ?_ | refine zze ?_ | refine zzf ?_ | refine zzg ?_)
      refine x_call rfl rfl rfl trivial (tree_Len hM3.bu) ?_
      rintro _ _ ⟨rfl, rfl⟩
      refine ⟨trivial, ?_⟩
      rw [← hlc]
      repeat (first | refine za ?_ | refine zb ?_ | refine zc ?_ | refine zd ?_ | refine zg ?_ | refine zj ?_ | refine zl ?_ | refine zm ?_ | refine zn ?_ | refine zo ?_ | refine zr ?_ | refine zt ?_ | refine zu ?_ | refine zv ?_ | refine zw ?_ | refine zx ?_ | refine zy ?_ | refine zz ?_ | refine zza ?_ | refine zzb ?_ | refine zzc ?_ | refine zzd ?_ | refine zze ?_ | refine zzf ?_ | refine zzg ?_)
      refine x_false 62 rfl (by simp) ?_
      repeat (first | refine za ?_ | refine zb ?_ | refine zc ?_ | refine zd ?_ | refine zg ?_ | refine zj ?_ | refine zl ?_ | refine zm ?_ | refine zn ?_ | refine zo ?_ | refine zr ?_ | refine zt ?_ | refine zu ?_ | refine zv ?_ | refine zw ?_ | refine zx ?_ | refine zy ?_ | refine zz ?_ | refine zza ?_ | refine zzb ?_ | refine zzc ?_ | refine zzd ?_ | refine zze ?_ | refine zzf ?_ | refine zzg ?_)
      refine x_call rfl rfl rfl trivial (ref_Rises hA3) ?_
      rintro _ _ ⟨rfl, rfl⟩
      refine ⟨trivial, ?_⟩
      rw [hr]
      repeat (first | refine za ?_ | refine zb ?_ | refine zc ?_ | refine zd ?_ | refine zg ?_ | refine zj ?_ | refine zl ?_ | refine zm ?_ | refine zn ?_ | refine zo ?_ | refine zr ?_ | refine zt ?_ | refine zu ?_ | refine zv ?_ | refine zw ?_ | refine zx ?_ | refine zy ?_ | refine zz ?_ | refine zza ?_ | refine zzb ?_ | refine zzc ?_ | refine zzd ?_ | refine zze ?_ | refine zzf ?_ | refine zzg ?_)
      refine cw_loop (fun i : Nat => [(1, .int .i64 many), (5, ptr b 0), (10, va3), (11, .int .i64 i)]) (fun i H' => i ≤ w.length ∧ Keep Non H3 H') (fun i => w.length - i) 0 (by repeat (first | exact True.intro | refine ⟨rfl, ?_⟩)) ⟨Nat.zero_le _, Keep.refl _ _⟩ ?_
      rintro i H4 ⟨hi, hk4⟩
      have hM4 := hM3.keepN hk4
      have hA4 := hA3.keepN hk4
      repeat (first | refine za ?_ | refine zb ?_ | refine zc ?_ | refine zd ?_ | refine zg ?_ | refine zj ?_ | refine zl ?_ | refine zm ?_ | refine zn ?_ | refine zo ?_ | refine zr ?_ | refine zt ?_ | refine zu ?_ | refine zv ?_ | refine zw ?_ | refine zx ?_ | refine zy ?_ | refine zz ?_ | refine zza ?_ | refine zzb ?_ | refine zzc ?_ | refine zzd ?_ | refine zze ?_ | refine zzf ?_ | refine zzg ?_)
      refine cw_cond rfl (fun h3 => ?_) (fun h3 => ?_) <;> (try simp at h3)
      · obtain ⟨p, hp⟩ : ∃ p, w[i]? = some p := ⟨_, List.getElem?_eq_getElem (by omega)⟩
        obtain ⟨kk, a1, a2, a3⟩ := hA4.at_ i p hp
        have hpl := hmk p (List.mem_of_getElem? hp)
        obtain ⟨d, hd1, hd2⟩ := floor_next hr hp
        repeat (first | refine za ?_ | refine zb ?_ | refine zc ?_ | refine zd ?_ | refine zg ?_ | refine zj ?_ | refine zl ?_ | refine zm ?_ | refine zn ?_ | refine zo ?_ | refine zr ?_ | refine zt ?_ | refine zu ?_ | refine zv ?_ | refine zw ?_ | refine zx ?_ | refine zy ?_ | refine zz ?_ | refine zza ?_ | refine zzb ?_ | refine zzc ?_ | refine zzd ?_ | refine zze ?_ | refine zzf ?_ | refine zzg ?_)
        refine x_load rfl rfl (hpmt (a1)) rfl trivial ?_
        repeat (first | refine za ?_ | refine zb ?_ | refine zc ?_ | refine zd ?_ | refine zg ?_ | refine zj ?_ | refine zl ?_ | refine zm ?_ | refine zn ?_ | refine zo ?_ | refine zr ?_ | refine zt ?_ | refine zu ?_ | refine zv ?_ | refine zw ?_ | refine zx ?_ | refine zy ?_ | refine zz ?_ | refine zza ?_ | refine zzb ?_ | refine zzc ?_ | refine zzd ?_ | refine zze ?_ | refine zzf ?_ | refine zzg ?_)
        refine x_call rfl rfl rfl trivial (tree_Floor hM4.bu (by omega) a3) ?_
        rw [f2, floor_self hr hp]
        rintro _ H5 ⟨hk5, c5, rfl, hc5, hf5⟩
        refine ⟨trivial, ?_⟩
        repeat (first | refine za ?_ | refine zb ?_ | refine zc ?_ | refine zd ?_ | refine zg ?_ | refine zj ?_ | refine zl ?_ | refine zm ?_ | refine zn ?_ | refine zo ?_ | refine zr ?_ | refine zt ?_ | refine zu ?_ | refine zv ?_ | refine zw ?_ | refine zx ?_ | refine zy ?_ | refine zz ?_ | refine zza ?_ | refine zzb ?_ | refine zzc ?_ | refine zzd ?_ | refine zze ?_ | refine zzf ?_ | refine zzg ?_)
        refine x_alloc rfl rfl trivial ?_
        intro H6 hn6
        refine ⟨trivial, ?_⟩
        refine x_stores rfl rfl rfl rfl (two_oneC' (isSl_oneC hc5.sl)) hn6.blk (by simp) trivial ?_
        intro H7 hB7 hk7 hs7
        refine ⟨trivial, ?_⟩
        have hq5 : Keep Non H5 H7 := keep_at hn6.keep hk7 (Nat.le_refl _)
        have hk47 := hk5.non_trans hq5
        have hM7 := hM4.keepN hk47
        have a1b := hk47.cel a1 (fun h => h)
        have a3b := a3.keepN hk47
        repeat (first | refine za ?_ | refine zb ?_ | refine zc ?_ | refine zd ?_ | refine zg ?_ | refine zj ?_ | refine zl ?_ | refine zm ?_ | refine zn ?_ | refine zo ?_ | refine zr ?_ | refine zt ?_ | refine zu ?_ | refine zv ?_ | refine zw ?_ | refine zx ?_ | refine zy ?_ | refine zz ?_ | refine zza ?_ | refine zzb ?_ | refine zzc ?_ | refine zzd ?_ | refine zze ?_ | refine zzf ?_ | refine zzg ?_)
        refine x_load rfl rfl (hpmt (a1b)) rfl trivial ?_
        repeat (first | refine za ?_ | refine zb ?_ | refine zc ?_ | refine zd ?_ | refine zg ?_ | refine zj ?_ | refine zl ?_ | refine zm ?_ | refine zn ?_ | refine zo ?_ | refine zr ?_ | refine zt ?_ | refine zu ?_ | refine zv ?_ | refine zw ?_ | refine zx ?_ | refine zy ?_ | refine zz ?_ | refine zza ?_ | refine zzb ?_ | refine zzc ?_ | refine zzd ?_ | refine zze ?_ | refine zzf ?_ | refine zzg ?_)
        refine x_call rfl rfl rfl trivial (tree_Ceil hM7.bu (by omega) a3b) ?_
        rw [f2, ceil_self hr hp]
        rintro _ H8 ⟨hk8, c8, rfl, hc8, hf8⟩
        refine ⟨trivial, ?_⟩
        repeat (first | refine za ?_ | refine zb ?_ | refine zc ?_ | refine zd ?_ | refine zg ?_ | refine zj ?_ | refine zl ?_ | refine zm ?_ | refine zn ?_ | refine zo ?_ | refine zr ?_ | refine zt ?_ | refine zu ?_ | refine zv ?_ | refine zw ?_ | refine zx ?_ | refine zy ?_ | refine zz ?_ | refine zza ?_ | refine zzb ?_ | refine zzc ?_ | refine zzd ?_ | refine zze ?_ | refine zzf ?_ | refine zzg ?_)
        refine x_alloc rfl rfl trivial ?_
        intro H9 hn9
        refine ⟨trivial, ?_⟩
        refine x_stores rfl rfl rfl rfl (two_oneC' (isSl_oneC hc8.sl)) hn9.blk (by simp) trivial ?_
        intro H10 hB10 hk10 hs10
        refine ⟨trivial, ?_⟩
        have hq8 : Keep Non H8 H10 := keep_at hn9.keep hk10 (Nat.le_refl _)
        have hk4a := hk47.non_trans (hk8.non_trans hq8)
        have hM10 := hM4.keepN hk4a
        repeat (first | refine za ?_ | refine zb ?_ | refine zc ?_ | refine zd ?_ | refine zg ?_ | refine zj ?_ | refine zl ?_ | refine zm ?_ | refine zn ?_ | refine zo ?_ | refine zr ?_ | refine zt ?_ | refine zu ?_ | refine zv ?_ | refine zw ?_ | refine zx ?_ | refine zy ?_ | refine zz ?_ | refine zza ?_ | refine zzb ?_ | refine zzc ?_ | refine zzd ?_ | refine zze ?_ | refine zzf ?_ | refine zzg ?_)
        refine x_call rfl rfl rfl trivial (tree_Select (i : Int) hM10.bu (by omega)) ?_
        rw [f2, selI_at hp]
        rintro _ H11 ⟨hk11, c11, rfl, hc11, hf11⟩
        refine ⟨trivial, ?_⟩
        repeat (first | refine za ?_ | refine zb ?_ | refine zc ?_ | refine zd ?_ | refine zg ?_ | refine zj ?_ | refine zl ?_ | refine zm ?_ | refine zn ?_ | refine zo ?_ | refine zr ?_ | refine zt ?_ | refine zu ?_ | refine zv ?_ | refine zw ?_ | refine zx ?_ | refine zy ?_ | refine zz ?_ | refine zza ?_ | refine zzb ?_ | refine zzc ?_ | refine zzd ?_ | refine zze ?_ | refine zzf ?_ | refine zzg ?_)
        refine x_alloc rfl rfl trivial ?_
        intro H12 hn12
        refine ⟨trivial, ?_⟩
        refine x_stores rfl rfl rfl rfl (two_oneC' (isSl_oneC hc11.sl)) hn12.blk (by simp) trivial ?_
        intro H13 hB13 hk13 hs13
        refine ⟨trivial, ?_⟩
        have hq11 : Keep Non H11 H13 := keep_at hn12.keep hk13 (Nat.le_refl _)
        have hk4b := hk4a.non_trans (hk11.non_trans hq11)
        have a1c := hk4b.cel a1 (fun h => h)
        have a3c := a3.keepN hk4b
        repeat (first | refine za ?_ | refine zb ?_ | refine zc ?_ | refine zd ?_ | refine zg ?_ | refine zj ?_ | refine zl ?_ | refine zm ?_ | refine zn ?_ | refine zo ?_ | refine zr ?_ | refine zt ?_ | refine zu ?_ | refine zv ?_ | refine zw ?_ | refine zx ?_ | refine zy ?_ | refine zz ?_ | refine zza ?_ | refine zzb ?_ | refine zzc ?_ | refine zzd ?_ | refine zze ?_ | refine zzf ?_ | refine zzg ?_)
        refine x_load rfl rfl (hpmt (a1c)) rfl trivial ?_
        repeat (first | refine za ?_ | refine zb ?_ | refine zc ?_ | refine zd ?_ | refine zg ?_ | refine zj ?_ | refine zl ?_ | refine zm ?_ | refine zn ?_ | refine zo ?_ | refine zr ?_ | refine zt ?_ | refine zu ?_ | refine zv ?_ | refine zw ?_ | refine zx ?_ | refine zy ?_ | refine zz ?_ | refine zza ?_ | refine zzb ?_ | refine zzc ?_ | refine zzd ?_ | refine zze ?_ | refine zzf ?_ | refine zzg ?_)
        refine x_append (by rfl) (by rfl) (by rfl) rfl rfl rfl (Own.nil 1 H13) (a3c).sl (by rw [bvs_length, Nat.mul_one]) (a3c).at_ (bvs_oneC _) (by omega) rfl trivial ?_
        intro v14 H14 hap14
        refine ⟨trivial, ?_⟩
        have hk14 := hap14.old (Fresh.nil H13) (Keep.refl _ _)
        have hf14 := hap14.fresh (Fresh.nil H13) (Nat.le_refl _)
        refine x_buildSlice rfl rfl rfl rfl (by omega) (by simp [oneC, Value.oneCell']) rfl trivial ?_
        intro H15 hn15
        refine ⟨trivial, ?_⟩
        have ho14 : Own 1 H15 v14 p.1.length (bvs p.1) := by
          have := hap14.own.keep hn15.keep (fun _ h => h)
          rw [Nat.zero_add, List.nil_append] at this
          exact this
        refine x_append (by rfl) (by rfl) (by rfl) rfl rfl rfl ho14 (isSl_some (Nat.le_refl _) (by omega)) (m := 1) (cx := [kb 0]) rfl (hn15.blk.cels 0 1 (by simp)) (by simp [oneC, Value.oneCell']) (by omega) rfl trivial ?_
        intro v16 H16 hap16
        refine ⟨trivial, ?_⟩
        have hk1316 : Keep Non H13 H16 := hap16.old hf14 (hn15.old hk14)
        have hk4c := hk4b.non_trans hk1316
        have hM16 := hM4.keepN hk4c
        have hN16 : Bs H16 v16 (p.1 ++ [0]) := by
          have h1 : Own 1 H16 v16 (p.1 ++ [0]).length (bvs (p.1 ++ [0])) := by rw [bvs_append, List.length_append]; exact hap16.own
          exact h1.bs
        repeat (first | refine za ?_ | refine zb ?_ | refine zc ?_ | refine zd ?_ | refine zg ?_ | refine zj ?_ | refine zl ?_ | refine zm ?_ | refine zn ?_ | refine zo ?_ | refine zr ?_ | refine zt ?_ | refine zu ?_ | refine zv ?_ | refine zw ?_ | refine zx ?_ | refine zy ?_ | refine zz ?_ | refine zza ?_ | refine zzb ?_ | refine zzc ?_ | refine zzd ?_ | refine zze ?_ | refine zzf ?_ | refine zzg ?_)
        refine x_call rfl rfl rfl trivial (tree_Floor hM16.bu (by omega) hN16) ?_
        rw [f2, hd1]
        rintro _ H17 ⟨hk17, c17, rfl, hc17, hf17⟩
        refine ⟨trivial, ?_⟩
        repeat (first | refine za ?_ | refine zb ?_ | refine zc ?_ | refine zd ?_ | refine zg ?_ | refine zj ?_ | refine zl ?_ | refine zm ?_ | refine zn ?_ | refine zo ?_ | refine zr ?_ | refine zt ?_ | refine zu ?_ | refine zv ?_ | refine zw ?_ | refine zx ?_ | refine zy ?_ | refine zz ?_ | refine zza ?_ | refine zzb ?_ | refine zzc ?_ | refine zzd ?_ | refine zze ?_ | refine zzf ?_ | refine zzg ?_)
        refine x_alloc rfl rfl trivial ?_
        intro H18 hn18
        refine ⟨trivial, ?_⟩
        refine x_stores rfl rfl rfl rfl (two_oneC' (isSl_oneC hc17.sl)) hn18.blk (by simp) trivial ?_
        intro H19 hB19 hk19 hs19
        refine ⟨trivial, ?_⟩
        have hq17 : Keep Non H17 H19 := keep_at hn18.keep hk19 (Nat.le_refl _)
        have hk4d := hk4c.non_trans (hk17.non_trans hq17)
        have hM19 := hM4.keepN hk4d
        have a1d := hk4d.cel a1 (fun h => h)
        have a2d := hk4d.cel a2 (fun h => h)
        have a3d := a3.keepN hk4d
        have e5 : Keep Non H7 H19 := ((hk8.non_trans hq8).non_trans (hk11.non_trans hq11)).non_trans (hk1316.non_trans (hk17.non_trans hq17))
        have e8 : Keep Non H10 H19 := (hk11.non_trans hq11).non_trans (hk1316.non_trans (hk17.non_trans hq17))
        have e11 : Keep Non H13 H19 := hk1316.non_trans (hk17.non_trans hq17)
        have P5 : Cels H19 H5.size 0 [c5, .int .u64 p.2] := by
          have := (hB7.keep e5 (fun h => h)).cels 0 2 (by simp [putL])
          simpa [putL] using this
        have P8 : Cels H19 H8.size 0 [c8, .int .u64 p.2] := by
          have := (hB10.keep e8 (fun h => h)).cels 0 2 (by simp [putL])
          simpa [putL] using this
        have P11 : Cels H19 H11.size 0 [c11, .int .u64 p.2] := by
          have := (hB13.keep e11 (fun h => h)).cels 0 2 (by simp [putL])
          simpa [putL] using this
        have P17 : cel H19 H17.size 0 = some c17 := by rw [hB19.cel]; rfl
        have C5 : Bs H19 c5 p.1 := (Own.bs (l := p.1) hc5).keepN (hq5.non_trans e5)
        have C8 : Bs H19 c8 p.1 := (Own.bs (l := p.1) hc8).keepN (hq8.non_trans e8)
        have C11 : Bs H19 c11 p.1 := (Own.bs (l := p.1) hc11).keepN (hq11.non_trans e11)
        have C17 : Bs H19 c17 d.1 := (Own.bs (l := d.1) hc17).keepN hq17
        have hkr := Keep.refl Non H19
        repeat (first | refine za ?_ | refine zb ?_ | refine zc ?_ | refine zd ?_ | refine zg ?_ | refine zj ?_ | refine zl ?_ | refine zm ?_ | refine zn ?_ | refine zo ?_ | refine zr ?_ | refine zt ?_ | refine zu ?_ | refine zv ?_ | refine zw ?_ | refine zx ?_ | refine zy ?_ | refine zz ?_ | refine zza ?_ | refine zzb ?_ | refine zzc ?_ | refine zzd ?_ | refine zze ?_ | refine zzf ?_ | refine zzg ?_)
        refine cw_held (fun _ => Keep Non H19) ⟨[21, 29, 42, 43], [(20, 0), (26, 0), (27, 0), (28, 0), (33, 0), (37, 0), (41, 0), (48, 0), (49, 0), (54, 0), (55, 0)]⟩ (.op 0 (.op 1 (.op 2 (.op 3 (.op 4 (.op 5 (.op 6 (.op 7 (.op 8 (.op 9 (.op 10 (.op 11 (.op 12 (.op 13 (.op 14 (.op 15 (.op 16 (.op 17 (.op 18 (.op 19 (.op 20 (.op 22 (.op 21 (.op 23 (.op 24 (.op 25 (.op 26 (.op 27 (.op 28 (.op 30 (.op 31 (.op 32 (.op 33 (.op 34 (.op 35 (.op 36 (.op 37 (.op 38 (.op 39 (.op 40 (.op 41 (.alt (.op 29 (.op 42 (.op 43 (.op 44 (.op 45 (.op 46 (.op 47 (.op 48 (.op 49 (.op 50 (.op 51 (.op 52 (.op 53 (.op 54 (.op 55 (.op 56 (.op 57 (.nil)))))))))))))))))) (.op 42 (.op 29 (.op 43 (.op 44 (.op 45 (.op 46 (.op 47 (.op 48 (.op 49 (.op 50 (.op 51 (.op 52 (.op 53 (.op 54 (.op 55 (.op 56 (.op 57 (.nil)))))))))))))))))))))))))))))))))))))))))))))))))))))))))))) panicOk_body mixed (by kernel_rfl) ?_
        repeat (first | refine za ?_ | refine zb ?_ | refine zc ?_ | refine zd ?_ | refine zj ?_ | refine zl ?_ | refine zm ?_ | refine zn ?_ | refine zo ?_ | refine zr ?_ | refine zt ?_ | refine zu ?_ | refine zv ?_ | refine zw ?_ | refine zx ?_ | refine zy ?_ | refine zz ?_ | refine zza ?_ | refine zzb ?_ | refine zzc ?_ | refine zzd ?_ | refine zze ?_ | refine zzf ?_ | refine zzg ?_)
        refine x_load rfl rfl (hpmk rfl (fun _ hk => hk.cel a1d (fun h => h))) rfl (okq_load rfl rfl (by assumption)) ?_
        repeat (first | refine za ?_ | refine zb ?_ | refine zc ?_ | refine zd ?_ | refine zj ?_ | refine zl ?_ | refine zm ?_ | refine zn ?_ | refine zo ?_ | refine zr ?_ | refine zt ?_ | refine zu ?_ | refine zv ?_ | refine zw ?_ | refine zx ?_ | refine zy ?_ | refine zz ?_ | refine zza ?_ | refine zzb ?_ | refine zzc ?_ | refine zzd ?_ | refine zze ?_ | refine zzf ?_ | refine zzg ?_)
        refine x_call rfl rfl rfl ⟨rfl, rfl⟩ (tree_Rank hM19.bu (by omega) a3d) ?_
        rw [f2, (rank_self hr hp).1]
        rintro _ H20 ⟨hk20, rfl⟩
        refine ⟨okm_keep hk20 (fun _ _ h => h), ?_⟩
        repeat (first | refine za ?_ | refine zb ?_ | refine zc ?_ | refine zd ?_ | refine zj ?_ | refine zl ?_ | refine zm ?_ | refine zn ?_ | refine zo ?_ | refine zr ?_ | refine zt ?_ | refine zu ?_ | refine zv ?_ | refine zw ?_ | refine zx ?_ | refine zy ?_ | refine zz ?_ | refine zza ?_ | refine zzb ?_ | refine zzc ?_ | refine zzd ?_ | refine zze ?_ | refine zzf ?_ | refine zzg ?_)
        refine x_false 138 rfl (by simp) ?_
        repeat (first | refine za ?_ | refine zb ?_ | refine zc ?_ | refine zd ?_ | refine zj ?_ | refine zl ?_ | refine zm ?_ | refine zn ?_ | refine zo ?_ | refine zr ?_ | refine zt ?_ | refine zu ?_ | refine zv ?_ | refine zw ?_ | refine zx ?_ | refine zy ?_ | refine zz ?_ | refine zza ?_ | refine zzb ?_ | refine zzc ?_ | refine zzd ?_ | refine zze ?_ | refine zzf ?_ | refine zzg ?_)
        refine x_loads (cs := [c5, .int .u64 p.2]) rfl rfl rfl (hpmk rfl (fun _ hk => P5.keep hk (fun _ h => h))) rfl (okq_load rfl rfl (by assumption)) ?_
        repeat (first | refine za ?_ | refine zb ?_ | refine zc ?_ | refine zd ?_ | refine zj ?_ | refine zl ?_ | refine zm ?_ | refine zn ?_ | refine zo ?_ | refine zr ?_ | refine zt ?_ | refine zu ?_ | refine zv ?_ | refine zw ?_ | refine zx ?_ | refine zy ?_ | refine zz ?_ | refine zza ?_ | refine zzb ?_ | refine zzc ?_ | refine zzd ?_ | refine zze ?_ | refine zzf ?_ | refine zzg ?_)
        refine x_loads (cs := [c8, .int .u64 p.2]) rfl rfl rfl (hpmk rfl (fun _ hk => P8.keep hk (fun _ h => h))) rfl (okq_load rfl rfl (by assumption)) ?_
        repeat (first | refine za ?_ | refine zb ?_ | refine zc ?_ | refine zd ?_ | refine zj ?_ | refine zl ?_ | refine zm ?_ | refine zn ?_ | refine zo ?_ | refine zr ?_ | refine zt ?_ | refine zu ?_ | refine zv ?_ | refine zw ?_ | refine zx ?_ | refine zy ?_ | refine zz ?_ | refine zza ?_ | refine zzb ?_ | refine zzc ?_ | refine zzd ?_ | refine zze ?_ | refine zzf ?_ | refine zzg ?_)
        refine x_loads (cs := [c11, .int .u64 p.2]) rfl rfl rfl (hpmk rfl (fun _ hk => P11.keep hk (fun _ h => h))) rfl (okq_load rfl rfl (by assumption)) ?_
        repeat (first | refine za ?_ | refine zb ?_ | refine zc ?_ | refine zd ?_ | refine zj ?_ | refine zl ?_ | refine zm ?_ | refine zn ?_ | refine zo ?_ | refine zr ?_ | refine zt ?_ | refine zu ?_ | refine zv ?_ | refine zw ?_ | refine zx ?_ | refine zy ?_ | refine zz ?_ | refine zza ?_ | refine zzb ?_ | refine zzc ?_ | refine zzd ?_ | refine zze ?_ | refine zzf ?_ | refine zzg ?_)
        refine x_loads (cs := [kk, .int .u64 p.2]) rfl rfl rfl (hpmk rfl (fun _ hk => (cels_two a1d a2d).keep hk (fun _ h => h))) rfl (okq_load rfl rfl (by assumption)) ?_
        repeat (first | refine za ?_ | refine zb ?_ | refine zc ?_ | refine zd ?_ | refine zj ?_ | refine zl ?_ | refine zm ?_ | refine zn ?_ | refine zo ?_ | refine zr ?_ | refine zt ?_ | refine zu ?_ | refine zv ?_ | refine zw ?_ | refine zx ?_ | refine zy ?_ | refine zz ?_ | refine zza ?_ | refine zzb ?_ | refine zzc ?_ | refine zzd ?_ | refine zze ?_ | refine zzf ?_ | refine zzg ?_)
        refine x_loads (cs := [kk, .int .u64 p.2]) rfl rfl rfl (hpmk rfl (fun _ hk => (cels_two a1d a2d).keep hk (fun _ h => h))) rfl (okq_load rfl rfl (by assumption)) ?_
        repeat (first | refine za ?_ | refine zb ?_ | refine zc ?_ | refine zd ?_ | refine zj ?_ | refine zl ?_ | refine zm ?_ | refine zn ?_ | refine zo ?_ | refine zr ?_ | refine zt ?_ | refine zu ?_ | refine zv ?_ | refine zw ?_ | refine zx ?_ | refine zy ?_ | refine zz ?_ | refine zza ?_ | refine zzb ?_ | refine zzc ?_ | refine zzd ?_ | refine zze ?_ | refine zzf ?_ | refine zzg ?_)
        refine x_loads (cs := [kk, .int .u64 p.2]) rfl rfl rfl (hpmk rfl (fun _ hk => (cels_two a1d a2d).keep hk (fun _ h => h))) rfl (okq_load rfl rfl (by assumption)) ?_
        repeat (first | refine za ?_ | refine zb ?_ | refine zc ?_ | refine zd ?_ | refine zj ?_ | refine zl ?_ | refine zm ?_ | refine zn ?_ | refine zo ?_ | refine zr ?_ | refine zt ?_ | refine zu ?_ | refine zv ?_ | refine zw ?_ | refine zx ?_ | refine zy ?_ | refine zz ?_ | refine zza ?_ | refine zzb ?_ | refine zzc ?_ | refine zzd ?_ | refine zze ?_ | refine zzf ?_ | refine zzg ?_)
        refine x_alt ?_ ?_
        · refine x_buildSliceS (css := [[c5, .int .u64 p.2], [c8, .int .u64 p.2], [c11, .int .u64 p.2]]) inferInstance inferInstance (by rfl) rfl rfl rfl (by omega) (by simp) rfl ⟨rfl, rfl⟩ ?_
          intro H21 hn21
          refine ⟨okm_keep hn21.keep (fun _ _ h => h.elim), ?_⟩
          refine x_buildSliceS (css := [[kk, .int .u64 p.2], [kk, .int .u64 p.2], [kk, .int .u64 p.2]]) inferInstance inferInstance (by rfl) rfl rfl rfl (by omega) (by simp) rfl ⟨rfl, rfl⟩ ?_
          intro H22 hn22
          refine ⟨okm_keep hn22.keep (fun _ _ h => h.elim), ?_⟩
          have hk1922 : Keep Non H19 H22 := hn22.old (hn21.old hk20)
          obtain ⟨bA, hbAe⟩ : ∃ bA, bA = H20.size := ⟨_, rfl⟩
          obtain ⟨bB, hbBe⟩ : ∃ bB, bB = H21.size := ⟨_, rfl⟩
          have hbA : Blk H22 bA [c5, .int .u64 p.2, c8, .int .u64 p.2, c11, .int .u64 p.2] := by rw [hbAe]; exact hn21.blk.keep hn22.keep (fun h => h)
          have hbB : Blk H22 bB [kk, .int .u64 p.2, kk, .int .u64 p.2, kk, .int .u64 p.2] := by rw [hbBe]; exact hn22.blk
          rw [← hbAe, ← hbBe]
          have hpa : Ps H22 (.slice (some ⟨bA, 0, none⟩) 3 3) [p, p, p] := ⟨isSl_some (Nat.le_refl _) (by omega), [(c5, p.2), (c8, p.2), (c11, p.2)], (Pk.one (p := p) (C5.keepN hk1922)).append ((Pk.one (p := p) (C8.keepN hk1922)).append (Pk.one (p := p) (C11.keepN hk1922))), hbA.cels 0 6 (by simp)⟩
          have hpb : Ps H22 (.slice (some ⟨bB, 0, none⟩) 3 3) [p, p, p] := ⟨isSl_some (Nat.le_refl _) (by omega), [(kk, p.2), (kk, p.2), (kk, p.2)], (Pk.one (p := p) (a3d.keepN hk1922)).append ((Pk.one (p := p) (a3d.keepN hk1922)).append (Pk.one (p := p) (a3d.keepN hk1922))), hbB.cels 0 6 (by simp)⟩
          refine x_call rfl rfl rfl ⟨rfl, rfl⟩ (law_SamePairs hpa hpb) ?_
          rintro _ _ ⟨rfl, rfl⟩
          refine ⟨okm_keep (Keep.refl Non _) (fun _ _ h => h), ?_⟩
          rw [decide_eq_true rfl]
          repeat (first | refine za ?_ | refine zb ?_ | refine zc ?_ | refine zd ?_ | refine zj ?_ | refine zl ?_ | refine zm ?_ | refine zn ?_ | refine zo ?_ | refine zr ?_ | refine zt ?_ | refine zu ?_ | refine zv ?_ | refine zw ?_ | refine zx ?_ | refine zy ?_ | refine zz ?_ | refine zza ?_ | refine zzb ?_ | refine zzc ?_ | refine zzd ?_ | refine zze ?_ | refine zzf ?_ | refine zzg ?_)
          refine x_load rfl rfl (hpmk rfl (fun _ hk => hk.cel P17 (fun h => h))) rfl (okq_load rfl rfl (by assumption)) ?_
          repeat (first | refine za ?_ | refine zb ?_ | refine zc ?_ | refine zd ?_ | refine zj ?_ | refine zl ?_ | refine zm ?_ | refine zn ?_ | refine zo ?_ | refine zr ?_ | refine zt ?_ | refine zu ?_ | refine zv ?_ | refine zw ?_ | refine zx ?_ | refine zy ?_ | refine zz ?_ | refine zza ?_ | refine zzb ?_ | refine zzc ?_ | refine zzd ?_ | refine zze ?_ | refine zzf ?_ | refine zzg ?_)
          refine x_tostr rfl rfl (hpmk rfl (fun _ hk => C17.keepN hk)) rfl (okq_load rfl rfl (by assumption)) ?_
          repeat (first | refine za ?_ | refine zb ?_ | refine zc ?_ | refine zd ?_ | refine zj ?_ | refine zl ?_ | refine zm ?_ | refine zn ?_ | refine zo ?_ | refine zr ?_ | refine zt ?_ | refine zu ?_ | refine zv ?_ | refine zw ?_ | refine zx ?_ | refine zy ?_ | refine zz ?_ | refine zza ?_ | refine zzb ?_ | refine zzc ?_ | refine zzd ?_ | refine zze ?_ | refine zzf ?_ | refine zzg ?_)
          refine x_load rfl rfl (hpmk rfl (fun _ hk => hk.cel a1d (fun h => h))) rfl (okq_load rfl rfl (by assumption)) ?_
          repeat (first | refine za ?_ | refine zb ?_ | refine zc ?_ | refine zd ?_ | refine zj ?_ | refine zl ?_ | refine zm ?_ | refine zn ?_ | refine zo ?_ | refine zr ?_ | refine zt ?_ | refine zu ?_ | refine zv ?_ | refine zw ?_ | refine zx ?_ | refine zy ?_ | refine zz ?_ | refine zza ?_ | refine zzb ?_ | refine zzc ?_ | refine zzd ?_ | refine zze ?_ | refine zzf ?_ | refine zzg ?_)
          refine x_tostr rfl rfl (hpmk rfl (fun _ hk => a3d.keepN hk)) rfl (okq_load rfl rfl (by assumption)) ?_
          repeat (first | refine za ?_ | refine zb ?_ | refine zc ?_ | refine zd ?_ | refine zj ?_ | refine zl ?_ | refine zm ?_ | refine zn ?_ | refine zo ?_ | refine zr ?_ | refine zt ?_ | refine zu ?_ | refine zv ?_ | refine zw ?_ | refine zx ?_ | refine zy ?_ | refine zz ?_ | refine zza ?_ | refine zzb ?_ | refine zzc ?_ | refine zzd ?_ | refine zze ?_ | refine zzf ?_ | refine zzg ?_)
          refine x_slss rfl rfl rfl rfl (okq_reg rfl rfl) ?_
          rw [str_list, str_list, less_cmp, decide_eq_false hd2]
          repeat (first | refine za ?_ | refine zb ?_ | refine zc ?_ | refine zd ?_ | refine zj ?_ | refine zl ?_ | refine zm ?_ | refine zn ?_ | refine zo ?_ | refine zr ?_ | refine zt ?_ | refine zu ?_ | refine zv ?_ | refine zw ?_ | refine zx ?_ | refine zy ?_ | refine zz ?_ | refine zza ?_ | refine zzb ?_ | refine zzc ?_ | refine zzd ?_ | refine zze ?_ | refine zzf ?_ | refine zzg ?_)
          repeat (first | refine za ?_ | refine zb ?_ | refine zc ?_ | refine zd ?_ | refine zg ?_ | refine zj ?_ | refine zl ?_ | refine zm ?_ | refine zn ?_ | refine zo ?_ | refine zr ?_ | refine zt ?_ | refine zu ?_ | refine zv ?_ | refine zw ?_ | refine zx ?_ | refine zy ?_ | refine zz ?_ | refine zza ?_ | refine zzb ?_ | refine zzc ?_ | refine zzd ?_ | refine zze ?_ | refine zzf ?_ | refine zzg ?_)
          refine nw_round (i + 1) (by repeat (first | exact True.intro | refine ⟨rfl, ?_⟩)) ⟨by omega, (hk4.non_trans hk4d).non_trans hk1922⟩ (by omega)
        · refine x_buildSliceS (css := [[kk, .int .u64 p.2], [kk, .int .u64 p.2], [kk, .int .u64 p.2]]) inferInstance inferInstance (by rfl) rfl rfl rfl (by omega) (by simp) rfl ⟨rfl, rfl⟩ ?_
          intro H21 hn21
          refine ⟨okm_keep hn21.keep (fun _ _ h => h.elim), ?_⟩
          refine x_buildSliceS (css := [[c5, .int .u64 p.2], [c8, .int .u64 p.2], [c11, .int .u64 p.2]]) inferInstance inferInstance (by rfl) rfl rfl rfl (by omega) (by simp) rfl ⟨rfl, rfl⟩ ?_
          intro H22 hn22
          refine ⟨okm_keep hn22.keep (fun _ _ h => h.elim), ?_⟩
          have hk1922 : Keep Non H19 H22 := hn22.old (hn21.old hk20)
          obtain ⟨bB, hbBe⟩ : ∃ bB, bB = H20.size := ⟨_, rfl⟩
          obtain ⟨bA, hbAe⟩ : ∃ bA, bA = H21.size := ⟨_, rfl⟩
          have hbA : Blk H22 bA [c5, .int .u64 p.2, c8, .int .u64 p.2, c11, .int .u64 p.2] := by rw [hbAe]; exact hn22.blk
          have hbB : Blk H22 bB [kk, .int .u64 p.2, kk, .int .u64 p.2, kk, .int .u64 p.2] := by rw [hbBe]; exact hn21.blk.keep hn22.keep (fun h => h)
          rw [← hbAe, ← hbBe]
          have hpa : Ps H22 (.slice (some ⟨bA, 0, none⟩) 3 3) [p, p, p] := ⟨isSl_some (Nat.le_refl _) (by omega), [(c5, p.2), (c8, p.2), (c11, p.2)], (Pk.one (p := p) (C5.keepN hk1922)).append ((Pk.one (p := p) (C8.keepN hk1922)).append (Pk.one (p := p) (C11.keepN hk1922))), hbA.cels 0 6 (by simp)⟩
          have hpb : Ps H22 (.slice (some ⟨bB, 0, none⟩) 3 3) [p, p, p] := ⟨isSl_some (Nat.le_refl _) (by omega), [(kk, p.2), (kk, p.2), (kk, p.2)], (Pk.one (p := p) (a3d.keepN hk1922)).append ((Pk.one (p := p) (a3d.keepN hk1922)).append (Pk.one (p := p) (a3d.keepN hk1922))), hbB.cels 0 6 (by simp)⟩
          refine x_call rfl rfl rfl ⟨rfl, rfl⟩ (law_SamePairs hpa hpb) ?_
          rintro _ _ ⟨rfl, rfl⟩
          refine ⟨okm_keep (Keep.refl Non _) (fun _ _ h => h), ?_⟩
          rw [decide_eq_true rfl]
          repeat (first | refine za ?_ | refine zb ?_ | refine zc ?_ | refine zd ?_ | refine zj ?_ | refine zl ?_ | refine zm ?_ | refine zn ?_ | refine zo ?_ | refine zr ?_ | refine zt ?_ | refine zu ?_ | refine zv ?_ | refine zw ?_ | refine zx ?_ | refine zy ?_ | refine zz ?_ | refine zza ?_ | refine zzb ?_ | refine zzc ?_ | refine zzd ?_ | refine zze ?_ | refine zzf ?_ | refine zzg ?_)
          refine x_load rfl rfl (hpmk rfl (fun _ hk => hk.cel P17 (fun h => h))) rfl (okq_load rfl rfl (by assumption)) ?_
          repeat (first | refine za ?_ | refine zb ?_ | refine zc ?_ | refine zd ?_ | refine zj ?_ | refine zl ?_ | refine zm ?_ | refine zn ?_ | refine zo ?_ | refine zr ?_ | refine zt ?_ | refine zu ?_ | refine zv ?_ | refine zw ?_ | refine zx ?_ | refine zy ?_ | refine zz ?_ | refine zza ?_ | refine zzb ?_ | refine zzc ?_ | refine zzd ?_ | refine zze ?_ | refine zzf ?_ | refine zzg ?_)
          refine x_tostr rfl rfl (hpmk rfl (fun _ hk => C17.keepN hk)) rfl (okq_load rfl rfl (by assumption)) ?_
          repeat (first | refine za ?_ | refine zb ?_ | refine zc ?_ | refine zd ?_ | refine zj ?_ | refine zl ?_ | refine zm ?_ | refine zn ?_ | refine zo ?_ | refine zr ?_ | refine zt ?_ | refine zu ?_ | refine zv ?_ | refine zw ?_ | refine zx ?_ | refine zy ?_ | refine zz ?_ | refine zza ?_ | refine zzb ?_ | refine zzc ?_ | refine zzd ?_ | refine zze ?_ | refine zzf ?_ | refine zzg ?_)
          refine x_load rfl rfl (hpmk rfl (fun _ hk => hk.cel a1d (fun h => h))) rfl (okq_load rfl rfl (by assumption)) ?_
          repeat (first | refine za ?_ | refine zb ?_ | refine zc ?_ | refine zd ?_ | refine zj ?_ | refine zl ?_ | refine zm ?_ | refine zn ?_ | refine zo ?_ | refine zr ?_ | refine zt ?_ | refine zu ?_ | refine zv ?_ | refine zw ?_ | refine zx ?_ | refine zy ?_ | refine zz ?_ | refine zza ?_ | refine zzb ?_ | refine zzc ?_ | refine zzd ?_ | refine zze ?_ | refine zzf ?_ | refine zzg ?_)
          refine x_tostr rfl rfl (hpmk rfl (fun _ hk => a3d.keepN hk)) rfl (okq_load rfl rfl (by assumption)) ?_
          repeat (first | refine za ?_ | refine zb ?_ | refine zc ?_ | refine zd ?_ | refine zj ?_ | refine zl ?_ | refine zm ?_ | refine zn ?_ | refine zo ?_ | refine zr ?_ | refine zt ?_ | refine zu ?_ | refine zv ?_ | refine zw ?_ | refine zx ?_ | refine zy ?_ | refine zz ?_ | refine zza ?_ | refine zzb ?_ | refine zzc ?_ | refine zzd ?_ | refine zze ?_ | refine zzf ?_ | refine zzg ?_)
          refine x_slss rfl rfl rfl rfl (okq_reg rfl rfl) ?_
          rw [str_list, str_list, less_cmp, decide_eq_false hd2]
          repeat (first | refine za ?_ | refine zb ?_ | refine zc ?_ | refine zd ?_ | refine zj ?_ | refine zl ?_ | refine zm ?_ | refine zn ?_ | refine zo ?_ | refine zr ?_ | refine zt ?_ | refine zu ?_ | refine zv ?_ | refine zw ?_ | refine zx ?_ | refine zy ?_ | refine zz ?_ | refine zza ?_ | refine zzb ?_ | refine zzc ?_ | refine zzd ?_ | refine zze ?_ | refine zzf ?_ | refine zzg ?_)
          repeat (first | refine za ?_ | refine zb ?_ | refine zc ?_ | refine zd ?_ | refine zg ?_ | refine zj ?_ | refine zl ?_ | refine zm ?_ | refine zn ?_ | refine zo ?_ | refine zr ?_ | refine zt ?_ | refine zu ?_ | refine zv ?_ | refine zw ?_ | refine zx ?_ | refine zy ?_ | refine zz ?_ | refine zza ?_ | refine zzb ?_ | refine zzc ?_ | refine zzd ?_ | refine zze ?_ | refine zzf ?_ | refine zzg ?_)
          refine nw_round (i + 1) (by repeat (first | exact True.intro | refine ⟨rfl, ?_⟩)) ⟨by omega, (hk4.non_trans hk4d).non_trans hk1922⟩ (by omega)
      · have hie : i = w.length := by omega
        clear h3
        obtain ⟨lo1, lo2⟩ := low_bd many (m := 6) (by omega)
        obtain ⟨m', hm'⟩ : ∃ m' : Nat, low many 6 = m' := ⟨(low many 6).toNat, by omega⟩
        repeat (first | refine za ?_ | refine zb ?_ | refine zc ?_ | refine zd ?_ | refine zg ?_ | refine zj ?_ | refine zl ?_ | refine zm ?_ | refine zn ?_ | refine zo ?_ | refine zr ?_ | refine zt ?_ | refine zu ?_ | refine zv ?_ | refine zw ?_ | refine zx ?_ | refine zy ?_ | refine zz ?_ | refine zza ?_ | refine zzb ?_ | refine zzc ?_ | refine zzd ?_ | refine zze ?_ | refine zzf ?_ | refine zzg ?_)
        refine x_call rfl rfl rfl trivial (law_LowF many 6 (by omega) H4) ?_
        rintro _ _ ⟨rfl, rfl⟩
        refine ⟨trivial, ?_⟩
        rw [hm']
        have hm1 : (1 : Int) + (m' : Int) = ((m' + 1 : Nat) : Int) := by omega
        have hnil4 := Bs.nil H4
        repeat (first | refine za ?_ | refine zb ?_ | refine zc ?_ | refine zd ?_ | refine zg ?_ | refine zj ?_ | refine zl ?_ | refine zm ?_ | refine zn ?_ | refine zo ?_ | refine zr ?_ | refine zt ?_ | refine zu ?_ | refine zv ?_ | refine zw ?_ | refine zx ?_ | refine zy ?_ | refine zz ?_ | refine zza ?_ | refine zzb ?_ | refine zzc ?_ | refine zzd ?_ | refine zze ?_ | refine zzf ?_ | refine zzg ?_)
        obtain ⟨m, hm⟩ : ∃ m, m = m' + 1 := ⟨_, rfl⟩
        refine cw_loop (fun s : Nat × Value × Value => [(1, .int .i64 m), (5, ptr b 0), (10, va3), (21, s.2.1), (22, s.2.2), (23, .int .i64 s.1)])
          (fun s H' => s.1 * m ≤ w.length ∧ Keep Non H4 H' ∧ (∃ q, Own 2 H' s.2.1 (s.1 * m) (pcs q) ∧ Pk (fun k c => Bs H' k c ∧ (c ≠ [] → 0 < sc s.2.1 → sb k ≠ sb s.2.1)) q (w.take (s.1 * m))) ∧ (0 < sc s.2.1 → H4.size ≤ sb s.2.1) ∧
            ∃ fk, Bs H' s.2.2 fk ∧ (fk ≠ [] → 0 < sc s.2.1 → sb s.2.2 ≠ sb s.2.1) ∧ fromM w fk m = (w.drop (s.1 * m)).take m) (fun s => 50 - s.1) (0, .slice none 0 0, .slice none 0 0) ⟨by rw [hm, ← hm1]; rfl, rfl, rfl, rfl, rfl, rfl, trivial⟩
          ⟨by simp, Keep.refl _ _, ⟨[], by simp only [Nat.zero_mul]; exact Own.nil 2 H4, by simp only [Nat.zero_mul, List.take_zero]; exact Pk.nil _⟩, fun h => by simp [sc] at h, [], hnil4, fun h => absurd rfl h, by rw [from_nil]; simp⟩ ?_
        rintro ⟨j, vp, vf⟩ H5 ⟨hj, hk5, ⟨q, hoq, hpq⟩, hfr, fk, hF, hFv, hfe⟩
        dsimp only at hj hoq hpq hfr hF hFv hfe ⊢
        have hjm : j ≤ j * m := Nat.le_mul_of_pos_right j (by omega)
        have hM5 := hM4.keepN hk5
        have hs5 := hk5.size
        repeat (first | refine za ?_ | refine zb ?_ | refine zc ?_ | refine zd ?_ | refine zg ?_ | refine zj ?_ | refine zl ?_ | refine zm ?_ | refine zn ?_ | refine zo ?_ | refine zr ?_ | refine zt ?_ | refine zu ?_ | refine zv ?_ | refine zw ?_ | refine zx ?_ | refine zy ?_ | refine zz ?_ | refine zza ?_ | refine zzb ?_ | refine zzc ?_ | refine zzd ?_ | refine zze ?_ | refine zzf ?_ | refine zzg ?_)
        refine cw_cond rfl (fun h5 => ?_) (fun h5 => ?_) <;> (try simp at h5)
        · repeat (first | refine za ?_ | refine zb ?_ | refine zc ?_ | refine zd ?_ | refine zg ?_ | refine zj ?_ | refine zl ?_ | refine zm ?_ | refine zn ?_ | refine zo ?_ | refine zr ?_ | refine zt ?_ | refine zu ?_ | refine zv ?_ | refine zw ?_ | refine zx ?_ | refine zy ?_ | refine zz ?_ | refine zza ?_ | refine zzb ?_ | refine zzc ?_ | refine zzd ?_ | refine zze ?_ | refine zzf ?_ | refine zzg ?_)
          refine x_call rfl rfl rfl trivial (tree_From (m : Int) hM5.bu (by omega) hF) ?_
          rw [f2, hfe]
          rintro vs H6 ⟨hk6, hP6⟩
          refine ⟨trivial, ?_⟩
          have hs6 := hk6.size
          obtain ⟨n, hn⟩ : ∃ n, n = ((w.drop (j * m)).take m).length := ⟨_, rfl⟩
          have hnle : n ≤ m ∧ n ≤ w.length - j * m ∧ (n = m ∨ n = w.length - j * m) := by rw [hn]; simp; omega
          have hPs := hP6.ps
          have sS := hPs.sl
          rw [← hn] at sS
          obtain ⟨qs, hqs, hos, _⟩ := hP6.row
          have hql := hqs.len
          rw [← hn] at hql
          have hpcl : (pcs qs).length = n * 2 := by rw [pcs_length, hql]
          have hvlt : 0 < sc vp → sb vp < H5.size := fun h => hoq.lt h
          repeat (first | refine za ?_ | refine zb ?_ | refine zc ?_ | refine zd ?_ | refine zg ?_ | refine zj ?_ | refine zl ?_ | refine zm ?_ | refine zn ?_ | refine zo ?_ | refine zr ?_ | refine zt ?_ | refine zu ?_ | refine zv ?_ | refine zw ?_ | refine zx ?_ | refine zy ?_ | refine zz ?_ | refine zza ?_ | refine zzb ?_ | refine zzc ?_ | refine zzd ?_ | refine zze ?_ | refine zzf ?_ | refine zzg ?_)
          refine cw_cond rfl (fun h6 => ?_) (fun h6 => ?_) <;> (try simp at h6)
          · omega
          repeat (first | refine za ?_ | refine zb ?_ | refine zc ?_ | refine zd ?_ | refine zg ?_ | refine zj ?_ | refine zl ?_ | refine zm ?_ | refine zn ?_ | refine zo ?_ | refine zr ?_ | refine zt ?_ | refine zu ?_ | refine zv ?_ | refine zw ?_ | refine zx ?_ | refine zy ?_ | refine zz ?_ | refine zza ?_ | refine zzb ?_ | refine zzc ?_ | refine zzd ?_ | refine zze ?_ | refine zzf ?_ | refine zzg ?_)
          refine x_append (by rfl) (by rfl) (by rfl) rfl rfl rfl (hoq.keep hk6 (fun _ h => h)) sS hpcl hos.cels (pcs_oneC hqs fun v b h => isSl_oneC h.1.sl) (by omega) rfl trivial ?_
          intro v7 H7 hap
          refine ⟨trivial, ?_⟩
          have hs7 := hap.keep.size
          have hk57 : Keep Non H4 H7 := (hk5.non_trans hk6).old hap.keep (fun z hz e => by have := hfr (by omega); have := e.1; omega)
          have hpq6 : Pk (fun k c => Bs H7 k c ∧ (c ≠ [] → 0 < sc v7 → sb k ≠ sb v7)) q (w.take (j * m)) := hpq.mono fun k c hb => ⟨(hb.1.keepN hk6).keep hap.keep (fun hne e => hb.2 hne (by omega) e.1), fun hne hc => by
            have hlt := hb.1.lt hne
            rcases hap.place with ⟨e1, _, e3, _⟩ | ⟨e1, _⟩
            · rw [e1]; exact hb.2 hne (by omega)
            · rw [e1]; omega⟩
          have hqs7 : Pk (fun k c => Bs H7 k c ∧ (c ≠ [] → 0 < sc v7 → sb k ≠ sb v7)) qs ((w.drop (j * m)).take m) := hqs.mono fun k c hb => ⟨hb.1.bs.keep hap.keep (fun hne e => by
              have h7 := List.length_pos_iff.2 hne
              have h8 := hb.2 (by have := hb.1.sl.cap; omega)
              have := hvlt (by omega)
              have := e.1
              omega), fun hne hc => by
              have h7 := List.length_pos_iff.2 hne
              have h8 := hb.2 (by have := hb.1.sl.cap; omega)
              have h9 := hb.1.lt (by have := hb.1.sl.cap; omega)
              rcases hap.place with ⟨e1, _, e3, _⟩ | ⟨e1, _⟩
              · have := hvlt (by omega); rw [e1]; omega
              · rw [e1]; omega⟩
          have hfr7 : 0 < sc v7 → H4.size ≤ sb v7 := fun hc => by
            rcases hap.place with ⟨e1, _, e3, _⟩ | ⟨e1, _⟩
            · rw [e1]; exact hfr (by omega)
            · rw [e1]; omega
          have hown7 : Own 2 H7 v7 (j * m + n) (pcs (q ++ qs)) := by rw [pcs_append]; exact hap.own
          repeat (first | refine za ?_ | refine zb ?_ | refine zc ?_ | refine zd ?_ | refine zg ?_ | refine zj ?_ | refine zl ?_ | refine zm ?_ | refine zn ?_ | refine zo ?_ | refine zr ?_ | refine zt ?_ | refine zu ?_ | refine zv ?_ | refine zw ?_ | refine zx ?_ | refine zy ?_ | refine zz ?_ | refine zza ?_ | refine zzb ?_ | refine zzc ?_ | refine zzd ?_ | refine zze ?_ | refine zzf ?_ | refine zzg ?_)
          refine cw_cond rfl (fun h7 => ?_) (fun h7 => ?_) <;> (try simp at h7)
          · have hall : w.take (j * m) ++ (w.drop (j * m)).take m = w := by
              rw [List.take_of_length_le (l := w.drop (j * m)) (by rw [List.length_drop]; omega), List.take_append_drop]
            have hP7 : Ps H7 v7 w := by
              have hlw : j * m + n = w.length := by omega
              rw [hlw] at hown7
              refine ⟨hown7.sl, q ++ qs, ?_, hown7.cels⟩
              rw [← hall]
              exact (hpq6.append hqs7).mono fun _ _ hb => hb.1
            have hA7 := hA4.keepN hk57
            repeat (first | refine za ?_ | refine zb ?_ | refine zc ?_ | refine zd ?_ | refine zg ?_ | refine zj ?_ | refine zl ?_ | refine zm ?_ | refine zn ?_ | refine zo ?_ | refine zr ?_ | refine zt ?_ | refine zu ?_ | refine zv ?_ | refine zw ?_ | refine zx ?_ | refine zy ?_ | refine zz ?_ | refine zza ?_ | refine zzb ?_ | refine zzc ?_ | refine zzd ?_ | refine zze ?_ | refine zzf ?_ | refine zzg ?_)
            refine x_call rfl rfl rfl trivial (law_SamePairs hP7 hA7) ?_
            rintro _ _ ⟨rfl, rfl⟩
            refine ⟨trivial, ?_⟩
            rw [decide_eq_true rfl]
            repeat (first | refine za ?_ | refine zb ?_ | refine zc ?_ | refine zd ?_ | refine zg ?_ | refine zj ?_ | refine zl ?_ | refine zm ?_ | refine zn ?_ | refine zo ?_ | refine zr ?_ | refine zt ?_ | refine zu ?_ | refine zv ?_ | refine zw ?_ | refine zx ?_ | refine zy ?_ | refine zz ?_ | refine zza ?_ | refine zzb ?_ | refine zzc ?_ | refine zzd ?_ | refine zze ?_ | refine zzf ?_ | refine zzg ?_)
            refine x_call rfl rfl rfl trivial (awake15 _) ?_
            rintro _ Hz ⟨rfl, hkz⟩
            refine ⟨trivial, ?_⟩
            repeat (first | refine za ?_ | refine zb ?_ | refine zc ?_ | refine zd ?_ | refine zg ?_ | refine zj ?_ | refine zl ?_ | refine zm ?_ | refine zn ?_ | refine zo ?_ | refine zr ?_ | refine zt ?_ | refine zu ?_ | refine zv ?_ | refine zw ?_ | refine zx ?_ | refine zy ?_ | refine zz ?_ | refine zza ?_ | refine zzb ?_ | refine zzc ?_ | refine zzd ?_ | refine zze ?_ | refine zzf ?_ | refine zzg ?_)
            exact cw_ret1 rfl rfl ⟨rfl, (hM4.keep.non_trans hk57).non_trans hkz⟩
          · have hnm : n = m := by omega
            obtain ⟨p, hp⟩ : ∃ p, w[j * m + m']? = some p := ⟨_, List.getElem?_eq_getElem (by omega)⟩
            have hps : ((w.drop (j * m)).take m)[m']? = some p := by rw [List.getElem?_take, if_pos (by omega), List.getElem?_drop]; exact hp
            have hPs7 : Ps H7 vs ((w.drop (j * m)).take m) := by
              refine ⟨hPs.sl, qs, hqs7.mono fun _ _ hb => hb.1, hos.cels.keep hap.keep (fun hne e => ?_)⟩
              have h1 := hP6.fresh (by have := hPs.sl.cap; rw [← hn] at this; omega)
              have := hvlt (by omega)
              have := e.1
              omega
            obtain ⟨kk, a1, a2, a3⟩ := hPs7.at_ m' p hps
            have hpl := hmk p (List.mem_of_getElem? hp)
            have em : ((m : Int) - 1).toNat = m' := by omega
            repeat (first | refine za ?_ | refine zb ?_ | refine zc ?_ | refine zd ?_ | refine zg ?_ | refine zj ?_ | refine zl ?_ | refine zm ?_ | refine zn ?_ | refine zo ?_ | refine zr ?_ | refine zt ?_ | refine zu ?_ | refine zv ?_ | refine zw ?_ | refine zx ?_ | refine zy ?_ | refine zz ?_ | refine zza ?_ | refine zzb ?_ | refine zzc ?_ | refine zzd ?_ | refine zze ?_ | refine zzf ?_ | refine zzg ?_)
            rw [em]
            refine x_load rfl rfl (hpmt (a1)) rfl trivial ?_
            repeat (first | refine za ?_ | refine zb ?_ | refine zc ?_ | refine zd ?_ | refine zg ?_ | refine zj ?_ | refine zl ?_ | refine zm ?_ | refine zn ?_ | refine zo ?_ | refine zr ?_ | refine zt ?_ | refine zu ?_ | refine zv ?_ | refine zw ?_ | refine zx ?_ | refine zy ?_ | refine zz ?_ | refine zza ?_ | refine zzb ?_ | refine zzc ?_ | refine zzd ?_ | refine zze ?_ | refine zzf ?_ | refine zzg ?_)
            refine x_append (by rfl) (by rfl) (by rfl) rfl rfl rfl (Own.nil 1 H7) (a3).sl (by rw [bvs_length, Nat.mul_one]) (a3).at_ (bvs_oneC _) (by omega) rfl trivial ?_
            intro v8 H8 hap8
            refine ⟨trivial, ?_⟩
            have hk8 := hap8.old (Fresh.nil H7) (Keep.refl _ _)
            have hf8 := hap8.fresh (Fresh.nil H7) (Nat.le_refl _)
            refine x_buildSlice rfl rfl rfl rfl (by omega) (by simp [oneC, Value.oneCell']) rfl trivial ?_
            intro H9 hn9
            refine ⟨trivial, ?_⟩
            have ho8 : Own 1 H9 v8 p.1.length (bvs p.1) := by
              have := hap8.own.keep hn9.keep (fun _ h => h)
              rw [Nat.zero_add, List.nil_append] at this
              exact this
            refine x_append (by rfl) (by rfl) (by rfl) rfl rfl rfl ho8 (isSl_some (Nat.le_refl _) (by omega)) (m := 1) (cx := [kb 0]) rfl (hn9.blk.cels 0 1 (by simp)) (by simp [oneC, Value.oneCell']) (by omega) rfl trivial ?_
            intro v10 H10 hap10
            refine ⟨trivial, ?_⟩
            have hk710 : Keep Non H7 H10 := hap10.old hf8 (hn9.old hk8)
            have hf10 : Fresh H7 v10 := hap10.fresh hf8 (by have := (hn9.old hk8).size; omega)
            have hown10 : Own 1 H10 v10 (p.1 ++ [0]).length (bvs (p.1 ++ [0])) := by rw [bvs_append, List.length_append]; exact hap10.own
            have hjm1 : (j + 1) * m = j * m + m := by rw [Nat.add_mul, Nat.one_mul]
            have htk : w.take ((j + 1) * m) = w.take (j * m) ++ (w.drop (j * m)).take m := by rw [hjm1, List.take_add]
            repeat (first | refine za ?_ | refine zb ?_ | refine zc ?_ | refine zd ?_ | refine zg ?_ | refine zj ?_ | refine zl ?_ | refine zm ?_ | refine zn ?_ | refine zo ?_ | refine zr ?_ | refine zt ?_ | refine zu ?_ | refine zv ?_ | refine zw ?_ | refine zx ?_ | refine zy ?_ | refine zz ?_ | refine zza ?_ | refine zzb ?_ | refine zzc ?_ | refine zzd ?_ | refine zze ?_ | refine zzf ?_ | refine zzg ?_)
            refine nw_round (j + 1, v7, v10) (by repeat (first | exact True.intro | refine ⟨rfl, ?_⟩)) ⟨by show (j + 1) * m ≤ _; omega, hk57.non_trans hk710, ⟨q ++ qs, ?_, ?_⟩, hfr7, p.1 ++ [0], hown10.bs, fun hne hc => ?_, ?_⟩ (by show 50 - (j + 1) < 50 - j; omega)
            · show Own 2 H10 v7 ((j + 1) * m) _
              rw [hjm1, ← hnm]
              rw [← hnm] at hown7
              exact hown7.keep hk710 (fun _ h => h)
            · show Pk _ (q ++ qs) (w.take ((j + 1) * m))
              rw [htk]
              exact (hpq6.append hqs7).mono fun _ _ hb => ⟨hb.1.keepN hk710, hb.2⟩
            · have h1 := hf10 (by have := hown10.sl.cap; simp at this; show 0 < sc v10; omega)
              have h2 := hown7.lt hc
              show sb v10 ≠ sb v7
              omega
            · show fromM w (p.1 ++ [0]) m = (w.drop ((j + 1) * m)).take m
              rw [from_next hr hp]
              have e : j * m + m' + 1 = (j + 1) * m := by omega
              rw [e]
              simp
        · omega
end Go.Proofs.Ytaloblomncjgkaa.X
