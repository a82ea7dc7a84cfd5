/- Chapter 15's statements: BurstBegins. -/
import Derived.Test.YtaloblomncjgkaaLBur
import Derived.Test.YtaloblomncjgkaaKbp
namespace Go.Proofs.Ytaloblomncjgkaa.X
open Go Go.Proofs
set_option linter.unusedVariables false
set_option linter.unusedSimpArgs false
set_option maxRecDepth 10000
set_option maxHeartbeats 2000000

/-- a block that was there is none of the tree's -/
theorem Mine.off {H0 H : Heap} {G : Role} {b most : Nat} {t : BT} (h : Mine H0 G H b most t) {z : Nat} (hz : z < H0.size) : G z = 0 := by
  by_cases e : G z = 0
  · exact e
  · have := h.from_ z e
    omega
/-- a put that has room, of a key that is not the tree's -/
theorem mine_put {H0 H : Heap} {G : Role} {b most : Nat} {t : BT} {vk : Value} {k : Bytes} (x : Int) (hM : Mine H0 G H b most t) (hc : t.count ≤ 5000) (hK : Bs H vk k) (hoff : k ≠ [] → G (sb vk) = 0) (hl : k.length ≤ 65535) (hroom : t.size + k.length + 9 ≤ most) :
    Ret Try.prog 17 [ptr b 0, vk, .int .u64 x] H (fun r H' => r = .tuple #[.int .u64 ((getM (t.pairs []) k).getD 0), .bool (there (t.pairs []) k), .int .i64 0] ∧ Keep (fun z => G z ≠ 0) H H' ∧ ∃ G', G.Ext G' H H' ∧ Mine H0 G' H' b most (t.put [] (k, x))) := by
  refine Ret.mono (tree_Put x hM.bu hc hK hoff) fun r H' h => ?_
  have h1 := (BT.put_size t (w := []) (p := (k, x)) hM.bu.wf (begins_nil' k) hl).1
  simp only [List.length_nil] at h1
  cases h with
  | long h => omega
  | full h hn hm => omega
  | put h hm e keep G' hE hB => exact ⟨e, keep, G', hE, hM.turn keep hE hB⟩

theorem walk_BurstBegins {va vk : Value} {l : List Pr} {k : Bytes} {H : Heap} (hA : Ps H va l) (hK : Bs H vk k) : Ret Try.prog 3 [va, vk] H (Yes H) := by
  have sKk := hK.sl
  have cKk := sKk.cap
  have sA := hA.sl
  have cA := sA.cap
  refine ret_of Try.func3 rfl rfl rfl rfl ?_
  intro w0
  repeat (first | refine za ?_ | refine zb ?_ | refine zc ?_ | refine zg ?_ | refine zj ?_ | refine zl ?_ | refine zm ?_ | refine zn ?_ | refine zo ?_ | refine zr ?_ | refine zt ?_ | refine zu ?_ | refine zv ?_ | refine zw ?_ | refine zx ?_ | refine zy ?_ | refine zz ?_ | refine zza ?_ | refine zzb ?_ | refine zzc ?_ | refine zzd ?_ | refine zze ?_ | refine zzf ?_ | refine zzg ?_)
  refine x_call rfl rfl rfl trivial (law_GreatPairs 30 20 (by omega) hA) ?_
  rintro _ _ ⟨rfl, b1, rfl, h1⟩
  refine ⟨trivial, ?_⟩
  repeat (first | refine za ?_ | refine zb ?_ | refine zc ?_ | refine zg ?_ | refine zj ?_ | refine zl ?_ | refine zm ?_ | refine zn ?_ | refine zo ?_ | refine zr ?_ | refine zt ?_ | refine zu ?_ | refine zv ?_ | refine zw ?_ | refine zx ?_ | refine zy ?_ | refine zz ?_ | refine zza ?_ | refine zzb ?_ | refine zzc ?_ | refine zzd ?_ | refine zze ?_ | refine zzf ?_ | refine zzg ?_)
  cases b1 with
  | true =>
    repeat (first | refine za ?_ | refine zb ?_ | refine zc ?_ | refine zg ?_ | refine zj ?_ | refine zl ?_ | refine zm ?_ | refine zn ?_ | refine zo ?_ | refine zr ?_ | refine zt ?_ | refine zu ?_ | refine zv ?_ | refine zw ?_ | refine zx ?_ | refine zy ?_ | refine zz ?_ | refine zza ?_ | refine zzb ?_ | refine zzc ?_ | refine zzd ?_ | refine zze ?_ | refine zzf ?_ | refine zzg ?_)
    refine x_call rfl rfl rfl trivial (awake15 _) ?_
    rintro _ Hz ⟨rfl, hkz⟩
    refine ⟨trivial, ?_⟩
    repeat (first | refine za ?_ | refine zb ?_ | refine zc ?_ | refine zg ?_ | refine zj ?_ | refine zl ?_ | refine zm ?_ | refine zn ?_ | refine zo ?_ | refine zr ?_ | refine zt ?_ | refine zu ?_ | refine zv ?_ | refine zw ?_ | refine zx ?_ | refine zy ?_ | refine zz ?_ | refine zza ?_ | refine zzb ?_ | refine zzc ?_ | refine zzd ?_ | refine zze ?_ | refine zzf ?_ | refine zzg ?_)
    exact cw_ret1 rfl rfl ⟨rfl, (Keep.refl Non H).non_trans hkz⟩
  | false =>
    obtain ⟨hl, hk⟩ := h1 rfl
    repeat (first | refine za ?_ | refine zb ?_ | refine zc ?_ | refine zg ?_ | refine zj ?_ | refine zl ?_ | refine zm ?_ | refine zn ?_ | refine zo ?_ | refine zr ?_ | refine zt ?_ | refine zu ?_ | refine zv ?_ | refine zw ?_ | refine zx ?_ | refine zy ?_ | refine zz ?_ | refine zza ?_ | refine zzb ?_ | refine zzc ?_ | refine zzd ?_ | refine zze ?_ | refine zzf ?_ | refine zzg ?_)
    refine cw_cond rfl (fun hkl => ?_) (fun hkl => ?_) <;> (try simp at hkl)
    · repeat (first | refine za ?_ | refine zb ?_ | refine zc ?_ | refine zg ?_ | refine zj ?_ | refine zl ?_ | refine zm ?_ | refine zn ?_ | refine zo ?_ | refine zr ?_ | refine zt ?_ | refine zu ?_ | refine zv ?_ | refine zw ?_ | refine zx ?_ | refine zy ?_ | refine zz ?_ | refine zza ?_ | refine zzb ?_ | refine zzc ?_ | refine zzd ?_ | refine zze ?_ | refine zzf ?_ | refine zzg ?_)
      refine x_call rfl rfl rfl trivial (awake15 _) ?_
      rintro _ Hz ⟨rfl, hkz⟩
      refine ⟨trivial, ?_⟩
      repeat (first | refine za ?_ | refine zb ?_ | refine zc ?_ | refine zg ?_ | refine zj ?_ | refine zl ?_ | refine zm ?_ | refine zn ?_ | refine zo ?_ | refine zr ?_ | refine zt ?_ | refine zu ?_ | refine zv ?_ | refine zw ?_ | refine zx ?_ | refine zy ?_ | refine zz ?_ | refine zza ?_ | refine zzb ?_ | refine zzc ?_ | refine zzd ?_ | refine zze ?_ | refine zzf ?_ | refine zzg ?_)
      exact cw_ret1 rfl rfl ⟨rfl, (Keep.refl Non H).non_trans hkz⟩
    repeat (first | refine za ?_ | refine zb ?_ | refine zc ?_ | refine zg ?_ | refine zj ?_ | refine zl ?_ | refine zm ?_ | refine zn ?_ | refine zo ?_ | refine zr ?_ | refine zt ?_ | refine zu ?_ | refine zv ?_ | refine zw ?_ | refine zx ?_ | refine zy ?_ | refine zz ?_ | refine zza ?_ | refine zzb ?_ | refine zzc ?_ | refine zzd ?_ | refine zze ?_ | refine zzf ?_ | refine zzg ?_)
    refine x_call rfl rfl rfl trivial (tree_New 5000) ?_
    rintro v1 H1 h1
    refine ⟨trivial, ?_⟩
    rcases h1 with ⟨h1, _⟩ | ⟨_, _, hk1, b, G1, rfl, hF1, hB1⟩
    · omega
    have hM1 : Mine H G1 H1 b 5000 .nil := ⟨hB1, hF1, hk1⟩
    repeat (first | refine za ?_ | refine zb ?_ | refine zc ?_ | refine zg ?_ | refine zj ?_ | refine zl ?_ | refine zm ?_ | refine zn ?_ | refine zo ?_ | refine zr ?_ | refine zt ?_ | refine zu ?_ | refine zv ?_ | refine zw ?_ | refine zx ?_ | refine zy ?_ | refine zz ?_ | refine zza ?_ | refine zzb ?_ | refine zzc ?_ | refine zzd ?_ | refine zze ?_ | refine zzf ?_ | refine zzg ?_)
    refine cw_loop (fun i : Nat => [(0, va), (1, vk), (5, ptr b 0), (6, .int .i64 i)]) (fun i H' => i ≤ l.length ∧ ∃ G, Mine H G H' b 5000 (puts (l.take i))) (fun i => l.length - i) 0 (by repeat (first | exact True.intro | refine ⟨rfl, ?_⟩)) ⟨Nat.zero_le _, G1, hM1⟩ ?_
    rintro i H2 ⟨hi, G, hM⟩
    have hAp := hA.keepN hM.keep
    repeat (first | refine za ?_ | refine zb ?_ | refine zc ?_ | refine zg ?_ | refine zj ?_ | refine zl ?_ | refine zm ?_ | refine zn ?_ | refine zo ?_ | refine zr ?_ | refine zt ?_ | refine zu ?_ | refine zv ?_ | refine zw ?_ | refine zx ?_ | refine zy ?_ | refine zz ?_ | refine zza ?_ | refine zzb ?_ | refine zzc ?_ | refine zzd ?_ | refine zze ?_ | refine zzf ?_ | refine zzg ?_)
    refine cw_cond rfl (fun h2 => ?_) (fun h2 => ?_) <;> (try simp at h2)
    · obtain ⟨p, hp⟩ : ∃ p, l[i]? = some p := ⟨_, List.getElem?_eq_getElem (by omega)⟩
      obtain ⟨kk, a1, a2, a3⟩ := hAp.at_ i p hp
      have hpl := hk p (List.mem_of_getElem? hp)
      obtain ⟨f1, f2, f3⟩ := puts_facts (g := 20) (by omega) i (l.take i) (by simp; omega) (fun q hq => hk q (List.mem_of_mem_take hq))
      have hcn : (puts (l.take i)).count ≤ 30 := by rw [← hM.bu.len, f2]; have := newM_length (l.take i); simp at this; omega
      obtain ⟨k0, b1, b2, b3⟩ := hA.at_ i p hp
      have hkk : kk = k0 := by have := hM.keep.cel b1 (fun h => h); rw [this] at a1; cases a1; rfl
      have hkr := Keep.refl Non H2
      repeat (first | refine za ?_ | refine zb ?_ | refine zc ?_ | refine zj ?_ | refine zl ?_ | refine zm ?_ | refine zn ?_ | refine zo ?_ | refine zr ?_ | refine zt ?_ | refine zu ?_ | refine zv ?_ | refine zw ?_ | refine zx ?_ | refine zy ?_ | refine zz ?_ | refine zza ?_ | refine zzb ?_ | refine zzc ?_ | refine zze ?_ | refine zzf ?_ | refine zzg ?_)
      refine cw_held (fun _ => Keep Non H2) ⟨[11], [(5, 0), (10, 0)]⟩ (.op 0 (.op 1 (.op 2 (.op 3 (.op 4 (.op 5 (.op 6 (.op 7 (.op 8 (.op 9 (.op 10 (.op 11 (.nil))))))))))))) panicOk_body mixed (by kernel_rfl) ?_
      repeat (first | refine za ?_ | refine zb ?_ | refine zc ?_ | refine zj ?_ | refine zl ?_ | refine zm ?_ | refine zn ?_ | refine zo ?_ | refine zr ?_ | refine zt ?_ | refine zu ?_ | refine zv ?_ | refine zw ?_ | refine zx ?_ | refine zy ?_ | refine zz ?_ | refine zza ?_ | refine zzb ?_ | refine zzc ?_ | refine zzd ?_ | refine zze ?_ | refine zzf ?_ | refine zzg ?_)
      refine x_load rfl rfl (hpmk rfl (fun _ hk => hk.cel a1 (fun h => h))) rfl (okq_load rfl rfl (by assumption)) ?_
      repeat (first | refine za ?_ | refine zb ?_ | refine zc ?_ | refine zj ?_ | refine zl ?_ | refine zm ?_ | refine zn ?_ | refine zo ?_ | refine zr ?_ | refine zt ?_ | refine zu ?_ | refine zv ?_ | refine zw ?_ | refine zx ?_ | refine zy ?_ | refine zz ?_ | refine zza ?_ | refine zzb ?_ | refine zzc ?_ | refine zzd ?_ | refine zze ?_ | refine zzf ?_ | refine zzg ?_)
      refine x_load rfl rfl (hpmk rfl (fun _ hk => hk.cel a2 (fun h => h))) rfl (okq_load rfl rfl (by assumption)) ?_
      repeat (first | refine za ?_ | refine zb ?_ | refine zc ?_ | refine zj ?_ | refine zl ?_ | refine zm ?_ | refine zn ?_ | refine zo ?_ | refine zr ?_ | refine zt ?_ | refine zu ?_ | refine zv ?_ | refine zw ?_ | refine zx ?_ | refine zy ?_ | refine zz ?_ | refine zza ?_ | refine zzb ?_ | refine zzc ?_ | refine zzd ?_ | refine zze ?_ | refine zzf ?_ | refine zzg ?_)
      refine x_call rfl rfl rfl ⟨rfl, rfl⟩ (mine_put p.2 hM (by omega) a3 (fun hne => hM.off (by rw [hkk]; exact b3.lt hne)) (by omega) (by omega)) ?_
      rintro _ H3 ⟨rfl, hk3, G', hE3, hM3⟩
      refine ⟨okm_free (fun c => by cases c <;> kernel_rfl), ?_⟩
      repeat (first | refine za ?_ | refine zb ?_ | refine zc ?_ | refine zj ?_ | refine zl ?_ | refine zm ?_ | refine zn ?_ | refine zo ?_ | refine zr ?_ | refine zt ?_ | refine zu ?_ | refine zv ?_ | refine zw ?_ | refine zx ?_ | refine zy ?_ | refine zz ?_ | refine zza ?_ | refine zzb ?_ | refine zzc ?_ | refine zzd ?_ | refine zze ?_ | refine zzf ?_ | refine zzg ?_)
      repeat (first | refine za ?_ | refine zb ?_ | refine zc ?_ | refine zg ?_ | refine zj ?_ | refine zl ?_ | refine zm ?_ | refine zn ?_ | refine zo ?_ | refine zr ?_ | refine zt ?_ | refine zu ?_ | refine zv ?_ | refine zw ?_ | refine zx ?_ | refine zy ?_ | refine zz ?_ | refine zza ?_ | refine zzb ?_ | refine zzc ?_ | refine zzd ?_ | refine zze ?_ | refine zzf ?_ | refine zzg ?_)
      refine nw_round (i + 1) (by repeat (first | exact True.intro | refine ⟨rfl, ?_⟩)) ⟨by omega, G', by rw [puts_take hp]; exact hM3⟩ (by omega)
    · have hie : i = l.length := by omega
      subst hie
      rw [List.take_length] at hM
      obtain ⟨f1, f2, f3⟩ := puts_facts (g := 20) (by omega) l.length l rfl hk
      have hcn : (puts l).count ≤ 30 := by rw [← hM.bu.len, f2]; have := newM_length l; omega
      have hr := newM_rises l
      have hKp := hK.keepN hM.keep
      repeat (first | refine za ?_ | refine zb ?_ | refine zc ?_ | refine zg ?_ | refine zj ?_ | refine zl ?_ | refine zm ?_ | refine zn ?_ | refine zo ?_ | refine zr ?_ | refine zt ?_ | refine zu ?_ | refine zv ?_ | refine zw ?_ | refine zx ?_ | refine zy ?_ | refine zz ?_ | refine zza ?_ | refine zzb ?_ | refine zzc ?_ | refine zzd ?_ | refine zze ?_ | refine zzf ?_ | refine zzg ?_)
      refine x_call rfl rfl rfl trivial (tree_Longest hM.bu (by omega) hKp) ?_
      rw [f2]
      rintro _ H3 ⟨hk3, c, rfl, hc3, hf3⟩
      refine ⟨trivial, ?_⟩
      have hM3 := hM.keepN hk3
      repeat (first | refine za ?_ | refine zb ?_ | refine zc ?_ | refine zg ?_ | refine zj ?_ | refine zl ?_ | refine zm ?_ | refine zn ?_ | refine zo ?_ | refine zr ?_ | refine zt ?_ | refine zu ?_ | refine zv ?_ | refine zw ?_ | refine zx ?_ | refine zy ?_ | refine zz ?_ | refine zza ?_ | refine zzb ?_ | refine zzc ?_ | refine zzd ?_ | refine zze ?_ | refine zzf ?_ | refine zzg ?_)
      refine x_alloc rfl rfl trivial ?_
      intro H4 hn4
      refine ⟨trivial, ?_⟩
      refine x_stores rfl rfl rfl rfl (two_oneC' (isSl_oneC hc3.sl)) hn4.blk (by simp) trivial ?_
      intro H5 hB5 hk5 hs5
      refine ⟨trivial, ?_⟩
      have hk35 : Keep Non H3 H5 := keep_at hn4.keep hk5 (Nat.le_refl _)
      have hM5 := hM3.keepN hk35
      have hK5 := hK.keepN hM5.keep
      have hC5 := hc3.bs.keepN hk35
      have d0 : cel H5 H3.size 0 = some c := by rw [hB5.cel]; rfl
      have sC := hC5.sl
      obtain ⟨fr, hfr⟩ : ∃ fr : Nat, fr = match longM (newM l) k with | some p => p.1.length + 1 | none => 0 := ⟨_, rfl⟩
      have hfrle : fr ≤ k.length + 1 := by
        rw [hfr]
        cases hlm : longM (newM l) k with
        | none => exact Nat.zero_le _
        | some p => have := BT.beg_len (longM_some hlm).1; show p.1.length + 1 ≤ _; omega
      repeat (first | refine za ?_ | refine zb ?_ | refine zc ?_ | refine zg ?_ | refine zj ?_ | refine zl ?_ | refine zm ?_ | refine zn ?_ | refine zo ?_ | refine zr ?_ | refine zt ?_ | refine zu ?_ | refine zv ?_ | refine zw ?_ | refine zx ?_ | refine zy ?_ | refine zz ?_ | refine zza ?_ | refine zzb ?_ | refine zzc ?_ | refine zzd ?_ | refine zze ?_ | refine zzf ?_ | refine zzg ?_)
      refine cw_cut (fun _ : Unit => [(0, va), (1, vk), (5, ptr b 0), (9, .int .i64 fr)]) (fun _ H' => H5 = H') ?_ ?_
      · cases hlm : longM (newM l) k with
        | none =>
          rw [hlm] at hfr
          have hfr : fr = 0 := hfr
          subst hfr
          repeat (first | refine za ?_ | refine zb ?_ | refine zc ?_ | refine zg ?_ | refine zj ?_ | refine zl ?_ | refine zm ?_ | refine zn ?_ | refine zo ?_ | refine zr ?_ | refine zt ?_ | refine zu ?_ | refine zv ?_ | refine zw ?_ | refine zx ?_ | refine zy ?_ | refine zz ?_ | refine zza ?_ | refine zzb ?_ | refine zzc ?_ | refine zzd ?_ | refine zze ?_ | refine zzf ?_ | refine zzg ?_)
          exact nw_meet () (by repeat (first | exact True.intro | refine ⟨rfl, ?_⟩)) rfl
        | some p =>
          rw [hlm] at hfr hC5 sC
          have hfr : fr = p.1.length + 1 := hfr
          subst hfr
          have hC5 : Bs H5 c p.1 := hC5
          have sC : IsSl c p.1.length := sC
          have hbg := (longM_some hlm).1
          have hple := BT.beg_len hbg
          repeat (first | refine za ?_ | refine zb ?_ | refine zc ?_ | refine zj ?_ | refine zl ?_ | refine zm ?_ | refine zn ?_ | refine zo ?_ | refine zr ?_ | refine zt ?_ | refine zu ?_ | refine zv ?_ | refine zw ?_ | refine zx ?_ | refine zy ?_ | refine zz ?_ | refine zza ?_ | refine zzb ?_ | refine zzc ?_ | refine zze ?_ | refine zzf ?_ | refine zzg ?_)
          refine cw_quiet mixed (by kernel_rfl) ?_
          repeat (first | refine za ?_ | refine zb ?_ | refine zc ?_ | refine zg ?_ | refine zj ?_ | refine zl ?_ | refine zm ?_ | refine zn ?_ | refine zo ?_ | refine zr ?_ | refine zt ?_ | refine zu ?_ | refine zv ?_ | refine zw ?_ | refine zx ?_ | refine zy ?_ | refine zz ?_ | refine zza ?_ | refine zzb ?_ | refine zzc ?_ | refine zzd ?_ | refine zze ?_ | refine zzf ?_ | refine zzg ?_)
          refine x_load rfl rfl (hpmt (d0)) rfl trivial ?_
          repeat (first | refine za ?_ | refine zb ?_ | refine zc ?_ | refine zg ?_ | refine zj ?_ | refine zl ?_ | refine zm ?_ | refine zn ?_ | refine zo ?_ | refine zr ?_ | refine zt ?_ | refine zu ?_ | refine zv ?_ | refine zw ?_ | refine zx ?_ | refine zy ?_ | refine zz ?_ | refine zza ?_ | refine zzb ?_ | refine zzc ?_ | refine zzd ?_ | refine zze ?_ | refine zzf ?_ | refine zzg ?_)
          refine x_false 58 rfl (by simp; omega) ?_
          repeat (first | refine za ?_ | refine zb ?_ | refine zc ?_ | refine zg ?_ | refine zj ?_ | refine zl ?_ | refine zm ?_ | refine zn ?_ | refine zo ?_ | refine zr ?_ | refine zt ?_ | refine zu ?_ | refine zv ?_ | refine zw ?_ | refine zx ?_ | refine zy ?_ | refine zz ?_ | refine zza ?_ | refine zzb ?_ | refine zzc ?_ | refine zzd ?_ | refine zze ?_ | refine zzf ?_ | refine zzg ?_)
          refine x_load rfl rfl (hpmt (d0)) rfl trivial ?_
          repeat (first | refine za ?_ | refine zb ?_ | refine zc ?_ | refine zg ?_ | refine zj ?_ | refine zl ?_ | refine zm ?_ | refine zn ?_ | refine zo ?_ | refine zr ?_ | refine zt ?_ | refine zu ?_ | refine zv ?_ | refine zw ?_ | refine zx ?_ | refine zy ?_ | refine zz ?_ | refine zza ?_ | refine zzb ?_ | refine zzc ?_ | refine zzd ?_ | refine zze ?_ | refine zzf ?_ | refine zzg ?_)
          refine x_slice_h rfl rfl rfl sKk (by omega) (by omega) rfl trivial ?_
          intro u hu hcu
          repeat (first | refine za ?_ | refine zb ?_ | refine zc ?_ | refine zg ?_ | refine zj ?_ | refine zl ?_ | refine zm ?_ | refine zn ?_ | refine zo ?_ | refine zr ?_ | refine zt ?_ | refine zu ?_ | refine zv ?_ | refine zw ?_ | refine zx ?_ | refine zy ?_ | refine zz ?_ | refine zza ?_ | refine zzb ?_ | refine zzc ?_ | refine zzd ?_ | refine zze ?_ | refine zzf ?_ | refine zzg ?_)
          refine x_load rfl rfl (hpmt (d0)) rfl trivial ?_
          repeat (first | refine za ?_ | refine zb ?_ | refine zc ?_ | refine zg ?_ | refine zj ?_ | refine zl ?_ | refine zm ?_ | refine zn ?_ | refine zo ?_ | refine zr ?_ | refine zt ?_ | refine zu ?_ | refine zv ?_ | refine zw ?_ | refine zx ?_ | refine zy ?_ | refine zz ?_ | refine zza ?_ | refine zzb ?_ | refine zzc ?_ | refine zzd ?_ | refine zze ?_ | refine zzf ?_ | refine zzg ?_)
          have hU : Bs H5 u (k.take p.1.length) := by
            have := hK5.cut (a := 0) (b := p.1.length) hu hcu (by omega) hple
            simpa using this
          refine x_callq rfl rfl rfl ((law_SameBytes hU hC5).mono fun _ _ h => ⟨h.1.symm, h.2⟩) ?_
          have hsame : (k.take p.1.length == p.1) = true := by
            have := begins_take hbg
            rw [← this]
            simp
          rw [hsame]
          repeat (first | refine za ?_ | refine zb ?_ | refine zc ?_ | refine zg ?_ | refine zj ?_ | refine zl ?_ | refine zm ?_ | refine zn ?_ | refine zo ?_ | refine zr ?_ | refine zt ?_ | refine zu ?_ | refine zv ?_ | refine zw ?_ | refine zx ?_ | refine zy ?_ | refine zz ?_ | refine zza ?_ | refine zzb ?_ | refine zzc ?_ | refine zzd ?_ | refine zze ?_ | refine zzf ?_ | refine zzg ?_)
          refine x_load rfl rfl (hpmt (d0)) rfl trivial ?_
          repeat (first | refine za ?_ | refine zb ?_ | refine zc ?_ | refine zg ?_ | refine zj ?_ | refine zl ?_ | refine zm ?_ | refine zn ?_ | refine zo ?_ | refine zr ?_ | refine zt ?_ | refine zu ?_ | refine zv ?_ | refine zw ?_ | refine zx ?_ | refine zy ?_ | refine zz ?_ | refine zza ?_ | refine zzb ?_ | refine zzc ?_ | refine zzd ?_ | refine zze ?_ | refine zzf ?_ | refine zzg ?_)
          exact nw_meet () (by repeat (first | exact True.intro | refine ⟨rfl, ?_⟩)) rfl
      · rintro _ _ rfl
        have hno : ∀ n, fr ≤ n → n ≤ k.length → there (newM l) (k.take n) = false := fun n h1 h2 => longM_no hr h2 (fun p hp => by
          rw [hp] at hfr
          have hfr : fr = p.1.length + 1 := hfr
          omega)
        clear hB5 d0 hC5 sC hfr
        repeat (first | refine za ?_ | refine zb ?_ | refine zc ?_ | refine zg ?_ | refine zj ?_ | refine zl ?_ | refine zm ?_ | refine zn ?_ | refine zo ?_ | refine zr ?_ | refine zt ?_ | refine zu ?_ | refine zv ?_ | refine zw ?_ | refine zx ?_ | refine zy ?_ | refine zz ?_ | refine zza ?_ | refine zzb ?_ | refine zzc ?_ | refine zzd ?_ | refine zze ?_ | refine zzf ?_ | refine zzg ?_)
        refine cw_loop (fun n : Nat => [(0, va), (1, vk), (5, ptr b 0), (10, .int .i64 n)]) (fun n H' => fr ≤ n ∧ Keep Non H5 H') (fun n => k.length + 1 - n) fr (by repeat (first | exact True.intro | refine ⟨rfl, ?_⟩)) ⟨Nat.le_refl _, Keep.refl _ _⟩ ?_
        rintro n H6 ⟨hn, hk6⟩
        have hM6 := hM5.keepN hk6
        have hK6 := hK5.keepN hk6
        repeat (first | refine za ?_ | refine zb ?_ | refine zc ?_ | refine zg ?_ | refine zj ?_ | refine zl ?_ | refine zm ?_ | refine zn ?_ | refine zo ?_ | refine zr ?_ | refine zt ?_ | refine zu ?_ | refine zv ?_ | refine zw ?_ | refine zx ?_ | refine zy ?_ | refine zz ?_ | refine zza ?_ | refine zzb ?_ | refine zzc ?_ | refine zzd ?_ | refine zze ?_ | refine zzf ?_ | refine zzg ?_)
        refine cw_cond rfl (fun h3 => ?_) (fun h3 => ?_) <;> (try simp at h3)
        · repeat (first | refine za ?_ | refine zb ?_ | refine zc ?_ | refine zg ?_ | refine zj ?_ | refine zl ?_ | refine zm ?_ | refine zn ?_ | refine zo ?_ | refine zr ?_ | refine zt ?_ | refine zu ?_ | refine zv ?_ | refine zw ?_ | refine zx ?_ | refine zy ?_ | refine zz ?_ | refine zza ?_ | refine zzb ?_ | refine zzc ?_ | refine zzd ?_ | refine zze ?_ | refine zzf ?_ | refine zzg ?_)
          refine x_slice_h rfl rfl rfl sKk (by omega) (by omega) rfl trivial ?_
          intro u hu hcu
          have hU : Bs H6 u (k.take n) := by
            have := hK6.cut (a := 0) (b := n) hu hcu (by omega) (by omega)
            simpa using this
          repeat (first | refine za ?_ | refine zb ?_ | refine zc ?_ | refine zg ?_ | refine zj ?_ | refine zl ?_ | refine zm ?_ | refine zn ?_ | refine zo ?_ | refine zr ?_ | refine zt ?_ | refine zu ?_ | refine zv ?_ | refine zw ?_ | refine zx ?_ | refine zy ?_ | refine zz ?_ | refine zza ?_ | refine zzb ?_ | refine zzc ?_ | refine zzd ?_ | refine zze ?_ | refine zzf ?_ | refine zzg ?_)
          refine x_call rfl rfl rfl trivial (tree_Get hM6.bu (by omega) hU) ?_
          rw [f2, hno n hn (by omega)]
          rintro _ H7 ⟨hk7, rfl⟩
          refine ⟨trivial, ?_⟩
          repeat (first | refine za ?_ | refine zb ?_ | refine zc ?_ | refine zg ?_ | refine zj ?_ | refine zl ?_ | refine zm ?_ | refine zn ?_ | refine zo ?_ | refine zr ?_ | refine zt ?_ | refine zu ?_ | refine zv ?_ | refine zw ?_ | refine zx ?_ | refine zy ?_ | refine zz ?_ | refine zza ?_ | refine zzb ?_ | refine zzc ?_ | refine zzd ?_ | refine zze ?_ | refine zzf ?_ | refine zzg ?_)
          refine nw_round (n + 1) (by repeat (first | exact True.intro | refine ⟨rfl, ?_⟩)) ⟨by omega, hk6.non_trans hk7⟩ (by omega)
        · clear hno h3
          repeat (first | refine za ?_ | refine zb ?_ | refine zc ?_ | refine zg ?_ | refine zj ?_ | refine zl ?_ | refine zm ?_ | refine zn ?_ | refine zo ?_ | refine zr ?_ | refine zt ?_ | refine zu ?_ | refine zv ?_ | refine zw ?_ | refine zx ?_ | refine zy ?_ | refine zz ?_ | refine zza ?_ | refine zzb ?_ | refine zzc ?_ | refine zzd ?_ | refine zze ?_ | refine zzf ?_ | refine zzg ?_)
          refine cw_loop (fun i : Nat => [(0, va), (5, ptr b 0), (13, .int .i64 i)]) (fun i H' => i ≤ l.length ∧ Keep Non H6 H') (fun i => l.length - i) 0 (by repeat (first | exact True.intro | refine ⟨rfl, ?_⟩)) ⟨Nat.zero_le _, Keep.refl _ _⟩ ?_
          rintro i H7 ⟨hi, hk7⟩
          have hM7 := hM6.keepN hk7
          have hA7 := hA.keepN hM7.keep
          repeat (first | refine za ?_ | refine zb ?_ | refine zc ?_ | refine zg ?_ | refine zj ?_ | refine zl ?_ | refine zm ?_ | refine zn ?_ | refine zo ?_ | refine zr ?_ | refine zt ?_ | refine zu ?_ | refine zv ?_ | refine zw ?_ | refine zx ?_ | refine zy ?_ | refine zz ?_ | refine zza ?_ | refine zzb ?_ | refine zzc ?_ | refine zzd ?_ | refine zze ?_ | refine zzf ?_ | refine zzg ?_)
          refine cw_cond rfl (fun h4 => ?_) (fun h4 => ?_) <;> (try simp at h4)
          · obtain ⟨p, hp⟩ : ∃ p, l[i]? = some p := ⟨_, List.getElem?_eq_getElem (by omega)⟩
            obtain ⟨kk, a1, a2, a3⟩ := hA7.at_ i p hp
            obtain ⟨q, hq1, hq2⟩ := longM_self hr (newM_there (List.mem_of_getElem? hp))
            repeat (first | refine za ?_ | refine zb ?_ | refine zc ?_ | refine zg ?_ | refine zj ?_ | refine zl ?_ | refine zm ?_ | refine zn ?_ | refine zo ?_ | refine zr ?_ | refine zt ?_ | refine zu ?_ | refine zv ?_ | refine zw ?_ | refine zx ?_ | refine zy ?_ | refine zz ?_ | refine zza ?_ | refine zzb ?_ | refine zzc ?_ | refine zzd ?_ | refine zze ?_ | refine zzf ?_ | refine zzg ?_)
            refine x_load rfl rfl (hpmt (a1)) rfl trivial ?_
            repeat (first | refine za ?_ | refine zb ?_ | refine zc ?_ | refine zg ?_ | refine zj ?_ | refine zl ?_ | refine zm ?_ | refine zn ?_ | refine zo ?_ | refine zr ?_ | refine zt ?_ | refine zu ?_ | refine zv ?_ | refine zw ?_ | refine zx ?_ | refine zy ?_ | refine zz ?_ | refine zza ?_ | refine zzb ?_ | refine zzc ?_ | refine zzd ?_ | refine zze ?_ | refine zzf ?_ | refine zzg ?_)
            refine x_call rfl rfl rfl trivial (tree_Longest hM7.bu (by omega) a3) ?_
            rw [f2, hq1]
            rintro _ H8 ⟨hk8, c8, rfl, hc8, hf8⟩
            refine ⟨trivial, ?_⟩
            have hc8 : Own 1 H8 c8 q.1.length (bvs q.1) := hc8
            rw [hq2] at hc8
            repeat (first | refine za ?_ | refine zb ?_ | refine zc ?_ | refine zg ?_ | refine zj ?_ | refine zl ?_ | refine zm ?_ | refine zn ?_ | refine zo ?_ | refine zr ?_ | refine zt ?_ | refine zu ?_ | refine zv ?_ | refine zw ?_ | refine zx ?_ | refine zy ?_ | refine zz ?_ | refine zza ?_ | refine zzb ?_ | refine zzc ?_ | refine zzd ?_ | refine zze ?_ | refine zzf ?_ | refine zzg ?_)
            refine x_alloc rfl rfl trivial ?_
            intro H9 hn9
            refine ⟨trivial, ?_⟩
            refine x_stores rfl rfl rfl rfl (two_oneC' (isSl_oneC hc8.sl)) hn9.blk (by simp) trivial ?_
            intro H10 hB10 hk10 hs10
            refine ⟨trivial, ?_⟩
            have hk810 : Keep Non H8 H10 := keep_at hn9.keep hk10 (Nat.le_refl _)
            have hk710 := hk8.non_trans hk810
            have hC10 := hc8.bs.keepN hk810
            have g0 : cel H10 H8.size 0 = some c8 := by rw [hB10.cel]; rfl
            have a1' := hk710.cel a1 (fun h => h)
            have a3' := a3.keepN hk710
            repeat (first | refine za ?_ | refine zb ?_ | refine zc ?_ | refine zj ?_ | refine zl ?_ | refine zm ?_ | refine zn ?_ | refine zo ?_ | refine zr ?_ | refine zt ?_ | refine zu ?_ | refine zv ?_ | refine zw ?_ | refine zx ?_ | refine zy ?_ | refine zz ?_ | refine zza ?_ | refine zzb ?_ | refine zzc ?_ | refine zze ?_ | refine zzf ?_ | refine zzg ?_)
            refine cw_quiet mixed (by kernel_rfl) ?_
            repeat (first | refine za ?_ | refine zb ?_ | refine zc ?_ | refine zg ?_ | refine zj ?_ | refine zl ?_ | refine zm ?_ | refine zn ?_ | refine zo ?_ | refine zr ?_ | refine zt ?_ | refine zu ?_ | refine zv ?_ | refine zw ?_ | refine zx ?_ | refine zy ?_ | refine zz ?_ | refine zza ?_ | refine zzb ?_ | refine zzc ?_ | refine zzd ?_ | refine zze ?_ | refine zzf ?_ | refine zzg ?_)
            refine x_load rfl rfl (hpmt (g0)) rfl trivial ?_
            repeat (first | refine za ?_ | refine zb ?_ | refine zc ?_ | refine zg ?_ | refine zj ?_ | refine zl ?_ | refine zm ?_ | refine zn ?_ | refine zo ?_ | refine zr ?_ | refine zt ?_ | refine zu ?_ | refine zv ?_ | refine zw ?_ | refine zx ?_ | refine zy ?_ | refine zz ?_ | refine zza ?_ | refine zzb ?_ | refine zzc ?_ | refine zzd ?_ | refine zze ?_ | refine zzf ?_ | refine zzg ?_)
            refine x_load rfl rfl (hpmt (a1')) rfl trivial ?_
            repeat (first | refine za ?_ | refine zb ?_ | refine zc ?_ | refine zg ?_ | refine zj ?_ | refine zl ?_ | refine zm ?_ | refine zn ?_ | refine zo ?_ | refine zr ?_ | refine zt ?_ | refine zu ?_ | refine zv ?_ | refine zw ?_ | refine zx ?_ | refine zy ?_ | refine zz ?_ | refine zza ?_ | refine zzb ?_ | refine zzc ?_ | refine zzd ?_ | refine zze ?_ | refine zzf ?_ | refine zzg ?_)
            refine x_callq rfl rfl rfl ((law_SameBytes hC10 a3').mono fun _ _ h => ⟨h.1.symm, h.2⟩) ?_
            rw [show (p.1 == p.1) = true by simp]
            repeat (first | refine za ?_ | refine zb ?_ | refine zc ?_ | refine zg ?_ | refine zj ?_ | refine zl ?_ | refine zm ?_ | refine zn ?_ | refine zo ?_ | refine zr ?_ | refine zt ?_ | refine zu ?_ | refine zv ?_ | refine zw ?_ | refine zx ?_ | refine zy ?_ | refine zz ?_ | refine zza ?_ | refine zzb ?_ | refine zzc ?_ | refine zzd ?_ | refine zze ?_ | refine zzf ?_ | refine zzg ?_)
            refine nw_round (i + 1) (by repeat (first | exact True.intro | refine ⟨rfl, ?_⟩)) ⟨by omega, hk7.non_trans hk710⟩ (by omega)
          · repeat (first | refine za ?_ | refine zb ?_ | refine zc ?_ | refine zg ?_ | refine zj ?_ | refine zl ?_ | refine zm ?_ | refine zn ?_ | refine zo ?_ | refine zr ?_ | refine zt ?_ | refine zu ?_ | refine zv ?_ | refine zw ?_ | refine zx ?_ | refine zy ?_ | refine zz ?_ | refine zza ?_ | refine zzb ?_ | refine zzc ?_ | refine zzd ?_ | refine zze ?_ | refine zzf ?_ | refine zzg ?_)
            refine x_call rfl rfl rfl trivial (awake15 _) ?_
            rintro _ Hz ⟨rfl, hkz⟩
            refine ⟨trivial, ?_⟩
            repeat (first | refine za ?_ | refine zb ?_ | refine zc ?_ | refine zg ?_ | refine zj ?_ | refine zl ?_ | refine zm ?_ | refine zn ?_ | refine zo ?_ | refine zr ?_ | refine zt ?_ | refine zu ?_ | refine zv ?_ | refine zw ?_ | refine zx ?_ | refine zy ?_ | refine zz ?_ | refine zza ?_ | refine zzb ?_ | refine zzc ?_ | refine zzd ?_ | refine zze ?_ | refine zzf ?_ | refine zzg ?_)
            exact cw_ret1 rfl rfl ⟨rfl, (hM7.keep).non_trans hkz⟩
end Go.Proofs.Ytaloblomncjgkaa.X
