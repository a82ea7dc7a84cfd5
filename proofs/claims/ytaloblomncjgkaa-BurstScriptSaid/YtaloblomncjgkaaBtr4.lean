/- The package burst: a tree's Build; no tree. -/
import Derived.Test.YtaloblomncjgkaaBtr3
namespace Go.Proofs.Ytaloblomncjgkaa.X
open Go Go.Proofs
set_option linter.unusedVariables false
set_option linter.unusedSimpArgs false
set_option maxRecDepth 10000
set_option maxHeartbeats 2000000

/-- is a key too long? -/
def longs (l : List Pr) : Bool := l.any fun p => decide (65535 < p.1.length)
theorem longs_take {l : List Pr} {i : Nat} {p : Pr} (h : l[i]? = some p) : longs (l.take (i + 1)) = (longs (l.take i) || decide (65535 < p.1.length)) := by
  unfold longs
  rw [List.take_add_one, h]
  simp
theorem longs_of {l : List Pr} {p : Pr} (h : p ∈ l) (hp : 65535 < p.1.length) : longs l = true := List.any_eq_true.2 ⟨p, h, decide_eq_true hp⟩
theorem longs_not {l : List Pr} (h : longs l = false) : ∀ p ∈ l, p.1.length ≤ 65535 := fun p hp => by
  by_cases e : 65535 < p.1.length
  · rw [longs_of hp e] at h; cases h
  · omega
/-- what is wrong with pairs that are to be built of -/
def mayC (l : List Pr) : Int := if longs l then 3 else if rises l then 0 else 9
def buildT (l : List Pr) : BT := if l = [] then .nil else .built [] l
theorem mayC_ok {l : List Pr} (h : mayC l = 0) : BT.Ok [] l := by
  unfold mayC at h
  split at h
  · omega
  · split at h
    · rename_i h1 h2
      exact ⟨h2, fun p _ => beg_nil_ _, longs_not (by simpa using h1)⟩
    · omega
theorem buildT_wf {l : List Pr} (h : BT.Ok [] l) : (buildT l).Wf [] := by
  unfold buildT
  split
  · trivial
  · rename_i hne
    exact BT.built_wf 70000 (by simp) h hne
theorem buildT_pairs {l : List Pr} (h : BT.Ok [] l) : (buildT l).pairs [] = l := by
  unfold buildT
  split
  · rename_i e; rw [e]; rfl
  · exact BT.built_pairs (by simp) h

theorem burst_may {va : Value} {l : List Pr} {H : Heap} (hA : Ps H va l) : Ret Try.prog 66 [va] H (fun r H' => Keep Non H H' ∧ r = .int .i64 (mayC l)) := by
  have sA := hA.sl
  have cA := sA.cap
  refine ret_of Try.func66 rfl rfl rfl rfl ?_
  intro w0
  repeat (first | refine za ?_ | refine zb ?_ | refine zc ?_ | refine zj ?_ | refine zl ?_ | refine zo ?_ | refine zt ?_ | refine zv ?_ | refine zw ?_ | refine zx ?_ | refine zy ?_ | refine zz ?_ | refine zza ?_ | refine zzb ?_ | refine zzc ?_ | refine zzd ?_ | refine zze ?_ | refine zzf ?_ | refine zzg ?_)
  refine cw_loop (fun j : Nat => [(0, va), (5, va), (6, .int .i64 l.length), (7, .int .i64 j)]) (fun j H' => j ≤ l.length ∧ Keep Non H H' ∧ longs (l.take j) = false) (fun j => l.length - j) 0 (by repeat (first | exact True.intro | refine ⟨rfl, ?_⟩)) ⟨Nat.zero_le _, Keep.refl _ _, by simp [longs]⟩ ?_
  rintro j H2 ⟨hj, hk2, hlg⟩
  repeat (first | refine za ?_ | refine zb ?_ | refine zc ?_ | refine zj ?_ | refine zl ?_ | refine zo ?_ | refine zt ?_ | refine zv ?_ | refine zw ?_ | refine zx ?_ | refine zy ?_ | refine zz ?_ | refine zza ?_ | refine zzb ?_ | refine zzc ?_ | refine zzd ?_ | refine zze ?_ | refine zzf ?_ | refine zzg ?_)
  refine cw_cond rfl (fun h1 => ?_) (fun h1 => ?_) <;> (try simp at h1)
  · obtain ⟨p, hp⟩ := getp (l := l) h1
    obtain ⟨kk, a1, a2, a3⟩ := (hA.keepN hk2).at_ j p hp
    repeat (first | refine za ?_ | refine zb ?_ | refine zc ?_ | refine zj ?_ | refine zl ?_ | refine zo ?_ | refine zt ?_ | refine zv ?_ | refine zw ?_ | refine zx ?_ | refine zy ?_ | refine zz ?_ | refine zza ?_ | refine zzb ?_ | refine zzc ?_ | refine zzd ?_ | refine zze ?_ | refine zzf ?_ | refine zzg ?_)
    refine x_loads (cs := [kk, .int .u64 p.2]) rfl rfl rfl (hpmt (cels_two a1 a2)) rfl trivial ?_
    refine x_alloc rfl rfl trivial ?_
    intro H3 hn3
    refine ⟨trivial, ?_⟩
    refine x_stores rfl rfl rfl rfl (two_oneC' (isSl_oneC a3.sl)) hn3.blk (by simp) trivial ?_
    intro H4 hB4 hk4 hs4
    refine ⟨trivial, ?_⟩
    have hk24 : Keep Non H2 H4 := keep_at hn3.keep hk4 (Nat.le_refl _)
    have d0 : cel H4 H2.size 0 = some kk := by rw [hB4.cel]; rfl
    repeat (first | refine za ?_ | refine zb ?_ | refine zc ?_ | refine zj ?_ | refine zl ?_ | refine zo ?_ | refine zt ?_ | refine zv ?_ | refine zw ?_ | refine zx ?_ | refine zy ?_ | refine zz ?_ | refine zza ?_ | refine zzb ?_ | refine zzc ?_ | refine zzd ?_ | refine zze ?_ | refine zzf ?_ | refine zzg ?_)
    refine x_load rfl rfl (hpmt (d0)) rfl trivial ?_
    repeat (first | refine za ?_ | refine zb ?_ | refine zc ?_ | refine zj ?_ | refine zl ?_ | refine zo ?_ | refine zt ?_ | refine zv ?_ | refine zw ?_ | refine zx ?_ | refine zy ?_ | refine zz ?_ | refine zza ?_ | refine zzb ?_ | refine zzc ?_ | refine zzd ?_ | refine zze ?_ | refine zzf ?_ | refine zzg ?_)
    refine x_call rfl rfl rfl trivial (key_May a3.sl) ?_
    rintro _ _ ⟨rfl, rfl⟩
    refine ⟨trivial, ?_⟩
    repeat (first | refine za ?_ | refine zb ?_ | refine zc ?_ | refine zj ?_ | refine zl ?_ | refine zo ?_ | refine zt ?_ | refine zv ?_ | refine zw ?_ | refine zx ?_ | refine zy ?_ | refine zz ?_ | refine zza ?_ | refine zzb ?_ | refine zzc ?_ | refine zzd ?_ | refine zze ?_ | refine zzf ?_ | refine zzg ?_)
    refine cw_cond rfl (fun hm => ?_) (fun hm => ?_) <;> (try simp at hm)
    · repeat (first | refine za ?_ | refine zb ?_ | refine zc ?_ | refine zj ?_ | refine zl ?_ | refine zo ?_ | refine zt ?_ | refine zv ?_ | refine zw ?_ | refine zx ?_ | refine zy ?_ | refine zz ?_ | refine zza ?_ | refine zzb ?_ | refine zzc ?_ | refine zzd ?_ | refine zze ?_ | refine zzf ?_ | refine zzg ?_)
      refine cw_ret1 rfl rfl ⟨hk2.non_trans hk24, ?_⟩
      unfold mayC
      rw [if_pos (longs_of (List.mem_of_getElem? hp) hm)]
    · repeat (first | refine za ?_ | refine zb ?_ | refine zc ?_ | refine zj ?_ | refine zl ?_ | refine zo ?_ | refine zt ?_ | refine zv ?_ | refine zw ?_ | refine zx ?_ | refine zy ?_ | refine zz ?_ | refine zza ?_ | refine zzb ?_ | refine zzc ?_ | refine zzd ?_ | refine zze ?_ | refine zzf ?_ | refine zzg ?_)
      refine nw_round (j + 1) (by repeat (first | exact True.intro | refine ⟨rfl, ?_⟩)) ⟨by omega, hk2.non_trans hk24, ?_⟩ (by omega)
      rw [longs_take hp, hlg, decide_eq_false (by omega)]
      rfl
  · have hjl : j = l.length := by omega
    subst hjl
    rw [List.take_length] at hlg
    repeat (first | refine za ?_ | refine zb ?_ | refine zc ?_ | refine zj ?_ | refine zl ?_ | refine zo ?_ | refine zt ?_ | refine zv ?_ | refine zw ?_ | refine zx ?_ | refine zy ?_ | refine zz ?_ | refine zza ?_ | refine zzb ?_ | refine zzc ?_ | refine zzd ?_ | refine zze ?_ | refine zzf ?_ | refine zzg ?_)
    refine x_call rfl rfl rfl trivial (model_Rises (hA.keepN hk2)) ?_
    rintro _ _ ⟨rfl, rfl⟩
    refine ⟨trivial, ?_⟩
    repeat (first | refine za ?_ | refine zb ?_ | refine zc ?_ | refine zj ?_ | refine zl ?_ | refine zo ?_ | refine zt ?_ | refine zv ?_ | refine zw ?_ | refine zx ?_ | refine zy ?_ | refine zz ?_ | refine zza ?_ | refine zzb ?_ | refine zzc ?_ | refine zzd ?_ | refine zze ?_ | refine zzf ?_ | refine zzg ?_)
    refine cw_cond rfl (fun hr => ?_) (fun hr => ?_) <;> (try simp at hr)
    · repeat (first | refine za ?_ | refine zb ?_ | refine zc ?_ | refine zj ?_ | refine zl ?_ | refine zo ?_ | refine zt ?_ | refine zv ?_ | refine zw ?_ | refine zx ?_ | refine zy ?_ | refine zz ?_ | refine zza ?_ | refine zzb ?_ | refine zzc ?_ | refine zzd ?_ | refine zze ?_ | refine zzf ?_ | refine zzg ?_)
      refine cw_ret1 rfl rfl ⟨hk2, ?_⟩
      unfold mayC
      rw [hlg, hr]
      rfl
    · repeat (first | refine za ?_ | refine zb ?_ | refine zc ?_ | refine zj ?_ | refine zl ?_ | refine zo ?_ | refine zt ?_ | refine zv ?_ | refine zw ?_ | refine zx ?_ | refine zy ?_ | refine zz ?_ | refine zza ?_ | refine zzb ?_ | refine zzc ?_ | refine zzd ?_ | refine zze ?_ | refine zzf ?_ | refine zzg ?_)
      refine cw_ret1 rfl rfl ⟨hk2, ?_⟩
      unfold mayC
      rw [hlg, hr]
      rfl

/-- what a build may find -/
inductive BuildB (G : Role) (H : Heap) (b most : Nat) (l : List Pr) (r : Value) (H' : Heap) : Prop where
  | bad (h : mayC l ≠ 0) (e : r = .int .i64 (mayC l)) (keep : Keep Non H H')
  | full (h : mayC l = 0) (hm : most < (buildT l).size) (e : r = .int .i64 4) (keep : Keep Non H H')
  | ok (h : mayC l = 0) (hm : (buildT l).size ≤ most) (e : r = .int .i64 0) (keep : Keep (fun z => G z ≠ 0) H H') (G' : Role) (hE : G.Ext G' H H') (hB : Bu G' H' b most (buildT l))

theorem tree_Build {G : Role} {H : Heap} {b most : Nat} {t : BT} {va : Value} {l : List Pr} (hB : Bu G H b most t) (hA : Ps H va l) (hl : l.length ≤ 5000) (hsz0 : mayC l = 0 → (buildT l).size ≤ 1000000000000) : Ret Try.prog 36 [ptr b 0, va] H (fun r H' => BuildB G H b most l r H') := by
  have hbl : b < H.size := hB.gin b (by rw [hB.gb]; omega)
  have hms := hB.most_
  refine ret_of Try.func36 rfl rfl rfl rfl ?_
  intro w0
  repeat (first | refine za ?_ | refine zb ?_ | refine zg ?_ | refine zj ?_ | refine zs ?_ | refine zt ?_ | refine zx ?_ | refine zy ?_ | refine zz ?_ | refine zzc ?_ | refine zzd ?_ | refine zzf ?_ | refine zzg ?_)
  refine x_call rfl rfl rfl trivial (burst_may hA) ?_
  rintro _ H1 ⟨hk1, rfl⟩
  refine ⟨trivial, ?_⟩
  obtain ⟨mc, hmc⟩ : ∃ mc, mc = mayC l := ⟨_, rfl⟩
  rw [← hmc]
  repeat (first | refine za ?_ | refine zb ?_ | refine zg ?_ | refine zj ?_ | refine zs ?_ | refine zt ?_ | refine zx ?_ | refine zy ?_ | refine zz ?_ | refine zzc ?_ | refine zzd ?_ | refine zzf ?_ | refine zzg ?_)
  refine cw_cond rfl (fun h1 => ?_) (fun h1 => ?_) <;> (try simp at h1)
  · repeat (first | refine za ?_ | refine zb ?_ | refine zg ?_ | refine zj ?_ | refine zs ?_ | refine zt ?_ | refine zx ?_ | refine zy ?_ | refine zz ?_ | refine zzc ?_ | refine zzd ?_ | refine zzf ?_ | refine zzg ?_)
    refine cw_ret1 rfl rfl (.bad (by rw [← hmc]; exact h1) (by rw [hmc]) hk1)
  · have hm0 : mayC l = 0 := by rw [← hmc]; exact h1
    have hO := mayC_ok hm0
    have hsz := hsz0 hm0
    have hs1 := hk1.size
    repeat (first | refine za ?_ | refine zb ?_ | refine zg ?_ | refine zj ?_ | refine zs ?_ | refine zt ?_ | refine zx ?_ | refine zy ?_ | refine zz ?_ | refine zzc ?_ | refine zzd ?_ | refine zzf ?_ | refine zzg ?_)
    refine x_call rfl rfl rfl trivial (model_New (hA.keepN hk1) (by omega) hO.may) ?_
    rintro _ H2 ⟨hk2, mb, K, rfl, hF, hM⟩
    refine ⟨trivial, ?_⟩
    rw [newM_self hO.rise] at hM
    have hs2 := hk2.size
    repeat (first | refine za ?_ | refine zb ?_ | refine zg ?_ | refine zj ?_ | refine zs ?_ | refine zt ?_ | refine zx ?_ | refine zy ?_ | refine zz ?_ | refine zzc ?_ | refine zzd ?_ | refine zzf ?_ | refine zzg ?_)
    refine x_call rfl rfl rfl trivial (model_Len hM) ?_
    rintro _ _ ⟨rfl, rfl⟩
    refine ⟨trivial, ?_⟩
    repeat (first | refine za ?_ | refine zb ?_ | refine zg ?_ | refine zj ?_ | refine zs ?_ | refine zt ?_ | refine zx ?_ | refine zy ?_ | refine zz ?_ | refine zzc ?_ | refine zzd ?_ | refine zzf ?_ | refine zzg ?_)
    refine cw_cut (fun vr : Value => [(0, ptr b 0), (6, ptr mb 0), (7, vr)]) (fun vr H' => Keep Non H2 H' ∧ ∃ L, (∀ x, L x ≠ none → H2.size ≤ x) ∧ Lab.In L H' ∧ Tv L H' (buildT l) [] vr) ?_ ?_
    · refine cw_cond rfl (fun hpos => ?_) (fun hpos => ?_) <;> (try simp at hpos)
      · repeat (first | refine za ?_ | refine zb ?_ | refine zg ?_ | refine zj ?_ | refine zs ?_ | refine zt ?_ | refine zx ?_ | refine zy ?_ | refine zz ?_ | refine zzc ?_ | refine zzd ?_ | refine zzf ?_ | refine zzg ?_)
        refine x_call rfl rfl rfl trivial (model_All hM hO.rise (by omega) (fun p hp => by have := hO.may p hp; omega)) ?_
        rintro v H3 ⟨hk3, hP⟩
        refine ⟨trivial, ?_⟩
        have hs3 := hk3.size
        obtain ⟨q, hq, hov, hdv⟩ := hP.row
        obtain ⟨L0, hL0⟩ : ∃ L0 : Lab, L0 = fun x => if H2.size ≤ x ∧ x < H3.size ∧ x ≠ sb v then some (0, []) else none := ⟨_, rfl⟩
        have hne : l ≠ [] := fun e => by rw [e] at hpos; simp at hpos
        have hsv : 0 < sc v := by have := hov.sl.cap.1; have := List.length_pos_iff.2 hne; omega
        have hL0n : ∀ x, L0 x ≠ none → H2.size ≤ x ∧ x < H3.size := fun x hx => by
          rw [hL0] at hx
          by_cases e : H2.size ≤ x ∧ x < H3.size ∧ x ≠ sb v
          · exact ⟨e.1, e.2.1⟩
          · simp only [if_neg e] at hx; exact absurd rfl hx
        have hqL : Pk (KL L0 H3) q l := hq.mono fun kk c hb => ⟨hb.1.bs, fun hc => by
          have h1 := List.length_pos_iff.2 hc
          have h2 := hb.1.sl.cap.1
          have h3 := hb.2 (by omega)
          have h4 := hb.1.lt (by omega)
          rw [hL0]
          exact if_pos ⟨h3.1, h4, h3.2⟩⟩
        have hnil := Bs.nil H3
        repeat (first | refine za ?_ | refine zb ?_ | refine zg ?_ | refine zj ?_ | refine zs ?_ | refine zt ?_ | refine zx ?_ | refine zy ?_ | refine zz ?_ | refine zzc ?_ | refine zzd ?_ | refine zzf ?_ | refine zzg ?_)
        refine x_call rfl rfl rfl trivial (burst_built 70000 (w := []) (L := L0) (B := H2.size) (by simp) hO hnil hov hqL (fun x hx => (hL0n x hx).2) (fun hc => ⟨by rw [hL0]; exact if_neg (fun e => e.2.2 rfl), hP.fresh hc⟩) hs3 (by omega)) ?_
        rintro _ H4 ⟨hk4, rb, L', rfl, hrb, hE, hI, hT⟩
        refine ⟨trivial, ?_⟩
        repeat (first | refine za ?_ | refine zb ?_ | refine zg ?_ | refine zj ?_ | refine zs ?_ | refine zt ?_ | refine zx ?_ | refine zy ?_ | refine zz ?_ | refine zzc ?_ | refine zzd ?_ | refine zzf ?_ | refine zzg ?_)
        refine nw_meet _ (by repeat (first | exact True.intro | refine ⟨rfl, ?_⟩)) ⟨hk3.non_trans hk4, L', fun x hx => ?_, hI, ?_⟩
        · by_cases e : x < H2.size
          · rw [hE.low x e] at hx
            exact (hL0n x hx).1
          · omega
        · have : buildT l = BT.built [] l := by unfold buildT; rw [if_neg hne]
          rw [this]
          exact .inr ⟨rb, rfl, hT⟩
      · repeat (first | refine za ?_ | refine zb ?_ | refine zg ?_ | refine zj ?_ | refine zs ?_ | refine zt ?_ | refine zx ?_ | refine zy ?_ | refine zz ?_ | refine zzc ?_ | refine zzd ?_ | refine zzf ?_ | refine zzg ?_)
        refine nw_meet _ (by repeat (first | exact True.intro | refine ⟨rfl, ?_⟩)) ⟨Keep.refl _ _, fun _ => none, fun _ h => absurd rfl h, fun _ h => absurd rfl h, ?_⟩
        have hl0 : l = [] := by first | exact hpos | exact List.length_eq_zero_iff.1 (by omega)
        have : buildT l = .nil := by unfold buildT; rw [if_pos hl0]
        rw [this]
        exact .inl ⟨rfl, rfl⟩
    · rintro vr H5 ⟨hk5, L, hLf, hLi, hT⟩
      have hs5 := hk5.size
      have hk05 : Keep Non H H5 := (hk1.non_trans hk2).non_trans hk5
      have hB5 := hB.keepN hk05
      obtain ⟨K0, L0, mb0, vr0, r1, r2, r3, r4, r5, r6⟩ := hB5.row
      have c1 : cel H5 b 1 = some (.int .i64 most) := by rw [r1.cel]; rfl
      have hkr := Keep.refl Non H5
      have hov : oneC vr = true := by rcases hT with ⟨_, rfl⟩ | ⟨_, rfl, _⟩ <;> rfl
      repeat (first | refine za ?_ | refine zb ?_ | refine zj ?_ | refine zs ?_ | refine zt ?_ | refine zx ?_ | refine zy ?_ | refine zz ?_ | refine zzc ?_ | refine zzf ?_ | refine zzg ?_)
      refine cw_held (fun _ => Keep Non H5) ⟨[1], [(5, 0)]⟩ (.op 0 (.op 2 (.op 3 (.op 4 (.op 5 (.op 1 (.op 6 (.nil)))))))) panicOk_body mixed (by kernel_rfl) ?_
      repeat (first | refine za ?_ | refine zb ?_ | refine zj ?_ | refine zs ?_ | refine zt ?_ | refine zx ?_ | refine zy ?_ | refine zz ?_ | refine zzc ?_ | refine zzd ?_ | refine zzf ?_ | refine zzg ?_)
      refine x_load rfl rfl (hpmk rfl (fun _ hk => hk.cel c1 (fun h => h))) rfl (okq_load rfl rfl (by assumption)) ?_
      repeat (first | refine za ?_ | refine zb ?_ | refine zj ?_ | refine zs ?_ | refine zt ?_ | refine zx ?_ | refine zy ?_ | refine zz ?_ | refine zzc ?_ | refine zzd ?_ | refine zzf ?_ | refine zzg ?_)
      refine x_call rfl rfl rfl ⟨rfl, rfl⟩ (burst_size (buildT l) hT hsz) ?_
      rintro _ H6 ⟨hk6, rfl⟩
      refine ⟨okm_keep hk6 (fun _ _ h => h), ?_⟩
      have hs6 := hk6.size
      have hk06 := hk05.non_trans hk6
      repeat (first | refine za ?_ | refine zb ?_ | refine zj ?_ | refine zs ?_ | refine zt ?_ | refine zx ?_ | refine zy ?_ | refine zz ?_ | refine zzc ?_ | refine zzd ?_ | refine zzf ?_ | refine zzg ?_)
      repeat (first | refine za ?_ | refine zb ?_ | refine zg ?_ | refine zj ?_ | refine zs ?_ | refine zt ?_ | refine zx ?_ | refine zy ?_ | refine zz ?_ | refine zzc ?_ | refine zzd ?_ | refine zzf ?_ | refine zzg ?_)
      refine cw_cond rfl (fun hfull => ?_) (fun hfull => ?_) <;> (try simp at hfull)
      · repeat (first | refine za ?_ | refine zb ?_ | refine zg ?_ | refine zj ?_ | refine zs ?_ | refine zt ?_ | refine zx ?_ | refine zy ?_ | refine zz ?_ | refine zzc ?_ | refine zzd ?_ | refine zzf ?_ | refine zzg ?_)
        exact cw_ret1 rfl rfl (.full hm0 hfull rfl hk06)
      · have r1' := (hB.keepN hk06).row
        obtain ⟨K0, L0, mb0, vr0, r1, _⟩ := r1'
        have hT6 := hT.keepN hk6
        repeat (first | refine za ?_ | refine zb ?_ | refine zg ?_ | refine zj ?_ | refine zs ?_ | refine zt ?_ | refine zx ?_ | refine zy ?_ | refine zz ?_ | refine zzc ?_ | refine zzd ?_ | refine zzf ?_ | refine zzg ?_)
        refine x_call rfl rfl rfl trivial (burst_size (buildT l) hT6 hsz) ?_
        rintro _ H7 ⟨hk7, rfl⟩
        refine ⟨trivial, ?_⟩
        have hs7 := hk7.size
        have hk07 := hk06.non_trans hk7
        have r7 := r1.keep hk7 (fun h => h)
        repeat (first | refine za ?_ | refine zb ?_ | refine zg ?_ | refine zj ?_ | refine zs ?_ | refine zt ?_ | refine zx ?_ | refine zy ?_ | refine zz ?_ | refine zzc ?_ | refine zzd ?_ | refine zzf ?_ | refine zzg ?_)
        refine x_store rfl rfl rfl rfl r7 (by simp) trivial ?_
        intro H8 hB8 hk8 hs8
        refine ⟨trivial, ?_⟩
        repeat (first | refine za ?_ | refine zb ?_ | refine zg ?_ | refine zj ?_ | refine zs ?_ | refine zt ?_ | refine zx ?_ | refine zy ?_ | refine zz ?_ | refine zzc ?_ | refine zzd ?_ | refine zzf ?_ | refine zzg ?_)
        refine x_store rfl rfl rfl hov hB8 (by simp) trivial ?_
        intro H9 hB9 hk9 hs9
        refine ⟨trivial, ?_⟩
        repeat (first | refine za ?_ | refine zb ?_ | refine zg ?_ | refine zj ?_ | refine zs ?_ | refine zt ?_ | refine zx ?_ | refine zy ?_ | refine zz ?_ | refine zzc ?_ | refine zzd ?_ | refine zzf ?_ | refine zzg ?_)
        refine x_store rfl rfl rfl rfl hB9 (by simp) trivial ?_
        intro H10 hB10 hk10 hs10
        refine ⟨trivial, ?_⟩
        have hk7a : Keep (· = b) H7 H10 := (hk8.step hk9 (fun _ _ e => e)).step hk10 (fun _ _ e => e)
        have hKb : ∀ x, K x ≠ 0 → x ≠ b := fun x hx e => by have := hF x hx; omega
        have hLb : ∀ x, L x ≠ none → x ≠ b := fun x hx e => by have := hLf x hx; omega
        have hMa : Mo K H10 mb l := (((hM.keepN hk5).keepN hk6).keepN hk7).keep hk7a hKb
        have hTa : Tv L H10 (buildT l) [] vr := (hT6.keepN hk7).keep hk7a (fun x hx => hLb x (by rw [hx]; simp)) (fun x hx => hLb x hx.some)
        repeat (first | refine za ?_ | refine zb ?_ | refine zg ?_ | refine zj ?_ | refine zs ?_ | refine zt ?_ | refine zx ?_ | refine zy ?_ | refine zz ?_ | refine zzc ?_ | refine zzd ?_ | refine zzf ?_ | refine zzg ?_)
        refine cw_ret1 rfl rfl (.ok hm0 (by omega) rfl ?_ (mkG G H K L) (mkG_ext (by omega)) ⟨mkG_in hB.gin (Lab.In.mono hLi (by omega)) hMa.kin (by omega), by unfold mkG; rw [if_pos hbl]; exact hB.gb, buildT_wf hO, by omega, hms, K, L, mb, vr, hB10, ?_, hTa, Lab.In.mono hLi (by omega), ?_, ?_⟩)
        · refine (hk07.mono (S' := fun z => G z ≠ 0) (fun _ _ h => h.elim)).step hk7a (fun z hz e => ?_)
          have e : z = b := e
          rw [e, hB.gb]; omega
        · rw [buildT_pairs hO]; exact hMa
        · exact mkG_K (fun z hz hne => by have := hF z hne; omega) (fun z hz hne => by
            have h1 := hM.kin z hne
            by_cases e : L z = none
            · exact e
            · have := hLf z e; omega)
        · exact mkG_L (fun z hz hne => by have := hLf z hne; omega)
/-! no tree -/
section none
variable {vk : Value} {H : Heap}
theorem tree_indexN : Ret Try.prog 52 [.pointer none] H (fun v H' => H = H' ∧ v = .pointer none) := by
  refine ret_of Try.func52 rfl rfl rfl rfl ?_
  intro w0
  repeat (first | refine za ?_ | refine zb ?_ | refine zg ?_ | refine zj ?_ | refine zs ?_ | refine zt ?_ | refine zx ?_ | refine zy ?_ | refine zz ?_ | refine zzc ?_ | refine zzd ?_ | refine zzf ?_ | refine zzg ?_)
  exact cw_ret1 rfl rfl ⟨rfl, rfl⟩
theorem tree_LenN : Ret Try.prog 22 [.pointer none] H (fun v H' => H = H' ∧ v = .int .i64 0) := by
  refine ret_of Try.func22 rfl rfl rfl rfl ?_
  intro w0
  repeat (first | refine za ?_ | refine zb ?_ | refine zx ?_ | refine zy ?_ | refine zz ?_ | refine zzd ?_)
  refine x_call rfl rfl rfl trivial (tree_indexN) ?_
  rintro _ _ ⟨rfl, rfl⟩
  refine ⟨trivial, ?_⟩
  repeat (first | refine za ?_ | refine zb ?_ | refine zx ?_ | refine zy ?_ | refine zz ?_ | refine zzd ?_)
  refine x_call rfl rfl rfl trivial (model_LenN) ?_
  rintro _ _ ⟨rfl, rfl⟩
  refine ⟨trivial, ?_⟩
  repeat (first | refine za ?_ | refine zb ?_ | refine zx ?_ | refine zy ?_ | refine zz ?_ | refine zzd ?_)
  exact cw_ret1 rfl rfl ⟨rfl, rfl⟩
theorem tree_LiveN : Ret Try.prog 41 [.pointer none] H (fun v H' => H = H' ∧ v = .int .i64 0) := by
  refine ret_of Try.func41 rfl rfl rfl rfl ?_
  intro w0
  repeat (first | refine za ?_ | refine zb ?_ | refine zg ?_ | refine zj ?_ | refine zs ?_ | refine zt ?_ | refine zx ?_ | refine zy ?_ | refine zz ?_ | refine zzc ?_ | refine zzd ?_ | refine zzf ?_ | refine zzg ?_)
  exact cw_ret1 rfl rfl ⟨rfl, rfl⟩
theorem tree_GetN : Ret Try.prog 20 [.pointer none, vk] H (fun v H' => H = H' ∧ v = .tuple #[.int .u64 0, .bool false]) := by
  refine ret_of Try.func20 rfl rfl rfl rfl ?_
  intro w0
  repeat (first | refine za ?_ | refine zb ?_ | refine zr ?_ | refine zx ?_ | refine zy ?_ | refine zz ?_ | refine zzd ?_)
  refine x_call rfl rfl rfl trivial (tree_indexN) ?_
  rintro _ _ ⟨rfl, rfl⟩
  refine ⟨trivial, ?_⟩
  repeat (first | refine za ?_ | refine zb ?_ | refine zr ?_ | refine zx ?_ | refine zy ?_ | refine zz ?_ | refine zzd ?_)
  refine x_call rfl rfl rfl trivial (model_GetN) ?_
  rintro _ _ ⟨rfl, rfl⟩
  refine ⟨trivial, ?_⟩
  repeat (first | refine za ?_ | refine zb ?_ | refine zr ?_ | refine zx ?_ | refine zy ?_ | refine zz ?_ | refine zzd ?_)
  exact cw_ret2 rfl rfl rfl ⟨rfl, rfl⟩
theorem tree_RankN : Ret Try.prog 27 [.pointer none, vk] H (fun v H' => H = H' ∧ v = .int .i64 0) := by
  refine ret_of Try.func27 rfl rfl rfl rfl ?_
  intro w0
  repeat (first | refine za ?_ | refine zb ?_ | refine zx ?_ | refine zy ?_ | refine zz ?_ | refine zzd ?_)
  refine x_call rfl rfl rfl trivial (tree_indexN) ?_
  rintro _ _ ⟨rfl, rfl⟩
  refine ⟨trivial, ?_⟩
  repeat (first | refine za ?_ | refine zb ?_ | refine zx ?_ | refine zy ?_ | refine zz ?_ | refine zzd ?_)
  refine x_call rfl rfl rfl trivial (model_RankN) ?_
  rintro _ _ ⟨rfl, rfl⟩
  refine ⟨trivial, ?_⟩
  repeat (first | refine za ?_ | refine zb ?_ | refine zx ?_ | refine zy ?_ | refine zz ?_ | refine zzd ?_)
  exact cw_ret1 rfl rfl ⟨rfl, rfl⟩
theorem tree_FromN (m : Int) : Ret Try.prog 21 [.pointer none, vk, .int .i64 m] H (fun v H' => H = H' ∧ v = .slice none 0 0) := by
  refine ret_of Try.func21 rfl rfl rfl rfl ?_
  intro w0
  repeat (first | refine za ?_ | refine zb ?_ | refine zx ?_ | refine zy ?_ | refine zz ?_ | refine zzd ?_)
  refine x_call rfl rfl rfl trivial (tree_indexN) ?_
  rintro _ _ ⟨rfl, rfl⟩
  refine ⟨trivial, ?_⟩
  repeat (first | refine za ?_ | refine zb ?_ | refine zx ?_ | refine zy ?_ | refine zz ?_ | refine zzd ?_)
  refine x_call rfl rfl rfl trivial (model_FromN m) ?_
  rintro _ _ ⟨rfl, rfl⟩
  refine ⟨trivial, ?_⟩
  repeat (first | refine za ?_ | refine zb ?_ | refine zx ?_ | refine zy ?_ | refine zz ?_ | refine zzd ?_)
  exact cw_ret1 rfl rfl ⟨rfl, rfl⟩
theorem tree_ShapeN : Ret Try.prog 30 [.pointer none] H (fun v H' => H = H' ∧ v = .slice none 0 0) := by
  refine ret_of Try.func30 rfl rfl rfl rfl ?_
  intro w0
  repeat (first | refine za ?_ | refine zb ?_ | refine zj ?_ | refine zs ?_ | refine zt ?_ | refine zx ?_ | refine zy ?_ | refine zz ?_ | refine zzc ?_ | refine zzd ?_ | refine zzf ?_ | refine zzg ?_)
  refine x_call rfl rfl rfl trivial (tree_LenN) ?_
  rintro _ _ ⟨rfl, rfl⟩
  refine ⟨trivial, ?_⟩
  repeat (first | refine za ?_ | refine zb ?_ | refine zj ?_ | refine zs ?_ | refine zt ?_ | refine zx ?_ | refine zy ?_ | refine zz ?_ | refine zzc ?_ | refine zzd ?_ | refine zzf ?_ | refine zzg ?_)
  exact cw_ret1 rfl rfl ⟨rfl, rfl⟩
theorem tree_PutN (x : Int) : Ret Try.prog 17 [.pointer none, vk, .int .u64 x] H (fun v H' => H = H' ∧ v = .tuple #[.int .u64 0, .bool false, .int .i64 1]) := by
  refine ret_of Try.func17 rfl rfl rfl rfl ?_
  intro w0
  repeat (first | refine za ?_ | refine zb ?_ | refine zc ?_ | refine zg ?_ | refine zj ?_ | refine zm ?_ | refine zn ?_ | refine zo ?_ | refine zr ?_ | refine zs ?_ | refine zt ?_ | refine zu ?_ | refine zx ?_ | refine zy ?_ | refine zz ?_ | refine zza ?_ | refine zzb ?_ | refine zzc ?_ | refine zzd ?_ | refine zzf ?_ | refine zzg ?_)
  exact cw_ret3 rfl rfl rfl rfl ⟨rfl, rfl⟩
theorem tree_BuildN : Ret Try.prog 36 [.pointer none, vk] H (fun v H' => H = H' ∧ v = .int .i64 1) := by
  refine ret_of Try.func36 rfl rfl rfl rfl ?_
  intro w0
  repeat (first | refine za ?_ | refine zb ?_ | refine zg ?_ | refine zj ?_ | refine zs ?_ | refine zt ?_ | refine zx ?_ | refine zy ?_ | refine zz ?_ | refine zzc ?_ | refine zzd ?_ | refine zzf ?_ | refine zzg ?_)
  exact cw_ret1 rfl rfl ⟨rfl, rfl⟩
theorem tree_FloorN : Ret Try.prog 24 [.pointer none, vk] H (fun v H' => PairA H H' none v) := by
  refine ret_of Try.func24 rfl rfl rfl rfl ?_
  intro w0
  repeat (first | refine za ?_ | refine zb ?_ | refine zr ?_ | refine zx ?_ | refine zy ?_ | refine zz ?_ | refine zzd ?_)
  refine x_alloc rfl rfl trivial ?_
  intro H1 hn1
  refine ⟨trivial, ?_⟩
  have hkq := Keep.refl Non H1
  repeat (first | refine za ?_ | refine zb ?_ | refine zr ?_ | refine zx ?_ | refine zy ?_ | refine zz ?_ | refine zzd ?_)
  refine x_call rfl rfl rfl trivial (tree_indexN) ?_
  rintro _ _ ⟨rfl, rfl⟩
  refine ⟨trivial, ?_⟩
  repeat (first | refine za ?_ | refine zb ?_ | refine zr ?_ | refine zx ?_ | refine zy ?_ | refine zz ?_ | refine zzd ?_)
  refine x_call rfl rfl rfl trivial model_FloorN ?_
  rintro _ Hp ⟨hkp, cp, rfl, hcp, hfp⟩
  refine ⟨trivial, ?_⟩
  repeat (first | refine za ?_ | refine zb ?_ | refine zr ?_ | refine zx ?_ | refine zy ?_ | refine zz ?_ | refine zzd ?_)
  refine x_stores rfl rfl rfl rfl (two_oneC' (isSl_oneC hcp.sl)) ((hn1.blk.keep hkq (fun h => h)).keep hkp (fun h => h)) (by simp) trivial ?_
  intro Hr hBr hkr hsr
  refine ⟨trivial, ?_⟩
  have hsn := hn1.size
  have hsq := hkq.size
  repeat (first | refine za ?_ | refine zb ?_ | refine zr ?_ | refine zx ?_ | refine zy ?_ | refine zz ?_ | refine zzd ?_)
  exact cw_retc2 rfl rfl rfl rfl (hBr.cels 0 2 (by simp [putL])) ⟨keep_at ((hn1.keep.non_trans hkq).non_trans hkp) hkr (Nat.le_refl _), cp, rfl, hcp.keep hkr (fun hc e => by have := hfp hc; omega), fun hc => by have := hfp hc; omega⟩
theorem tree_SelectN (i : Int) : Ret Try.prog 26 [.pointer none, .int .i64 i] H (fun v H' => PairA H H' none v) := by
  refine ret_of Try.func26 rfl rfl rfl rfl ?_
  intro w0
  repeat (first | refine za ?_ | refine zb ?_ | refine zr ?_ | refine zx ?_ | refine zy ?_ | refine zz ?_ | refine zzd ?_)
  refine x_alloc rfl rfl trivial ?_
  intro H1 hn1
  refine ⟨trivial, ?_⟩
  have hkq := Keep.refl Non H1
  repeat (first | refine za ?_ | refine zb ?_ | refine zr ?_ | refine zx ?_ | refine zy ?_ | refine zz ?_ | refine zzd ?_)
  refine x_call rfl rfl rfl trivial (tree_indexN) ?_
  rintro _ _ ⟨rfl, rfl⟩
  refine ⟨trivial, ?_⟩
  repeat (first | refine za ?_ | refine zb ?_ | refine zr ?_ | refine zx ?_ | refine zy ?_ | refine zz ?_ | refine zzd ?_)
  refine x_call rfl rfl rfl trivial (model_SelectN i) ?_
  rintro _ Hp ⟨hkp, cp, rfl, hcp, hfp⟩
  refine ⟨trivial, ?_⟩
  repeat (first | refine za ?_ | refine zb ?_ | refine zr ?_ | refine zx ?_ | refine zy ?_ | refine zz ?_ | refine zzd ?_)
  refine x_stores rfl rfl rfl rfl (two_oneC' (isSl_oneC hcp.sl)) ((hn1.blk.keep hkq (fun h => h)).keep hkp (fun h => h)) (by simp) trivial ?_
  intro Hr hBr hkr hsr
  refine ⟨trivial, ?_⟩
  have hsn := hn1.size
  have hsq := hkq.size
  repeat (first | refine za ?_ | refine zb ?_ | refine zr ?_ | refine zx ?_ | refine zy ?_ | refine zz ?_ | refine zzd ?_)
  exact cw_retc2 rfl rfl rfl rfl (hBr.cels 0 2 (by simp [putL])) ⟨keep_at ((hn1.keep.non_trans hkq).non_trans hkp) hkr (Nat.le_refl _), cp, rfl, hcp.keep hkr (fun hc e => by have := hfp hc; omega), fun hc => by have := hfp hc; omega⟩
end none

/-- what pairs may take -/
def needs (l : List Pr) : Nat := (l.map fun p => 2 * p.1.length + 12).sum
theorem needs_take {l : List Pr} {i : Nat} {p : Pr} (h : l[i]? = some p) : needs (l.take (i + 1)) = needs (l.take i) + (2 * p.1.length + 12) := by
  unfold needs
  rw [List.take_add_one, h]
  simp
theorem needs_le (l : List Pr) (i : Nat) : needs (l.take i) ≤ needs l := by
  unfold needs
  conv => rhs; rw [← List.take_append_drop i l]
  rw [List.map_append, List.sum_append]
  omega
theorem needs_bd {l : List Pr} {g : Nat} (h : ∀ p ∈ l, p.1.length ≤ g) : needs l ≤ l.length * (2 * g + 12) := by
  induction l with
  | nil => simp [needs]
  | cons a l ih =>
    have h1 := h a (List.mem_cons_self ..)
    have h2 := ih fun p hp => h p (List.mem_cons_of_mem _ hp)
    have e : needs (a :: l) = (2 * a.1.length + 12) + needs l := by simp [needs]
    rw [e, List.length_cons, Nat.add_mul, Nat.one_mul]
    omega

theorem ref10_Put4 {n : Nat} {H : Heap} (h : n ≤ 65535) : Ret Try.prog 81 [.int .i64 4, .int .i64 n] H (fun v H' => H = H' ∧ v = .int .i64 ((2 * n + 12 : Nat) : Int)) := by
  refine ret_of Try.func81 rfl rfl rfl rfl ?_
  intro w0
  repeat (first | refine za ?_ | refine zb ?_ | refine zc ?_ | refine zi ?_ | refine zj ?_ | refine zm ?_ | refine zn ?_ | refine zu ?_ | refine zx ?_ | refine zy ?_ | refine zz ?_ | refine zza ?_ | refine zzb ?_ | refine zzc ?_ | refine zzd ?_ | refine zzf ?_ | refine zzg ?_)
  refine cw_cond rfl (fun h2 => ?_) (fun h2 => ?_) <;> (try simp at h2)
  · omega
  · repeat (first | refine za ?_ | refine zb ?_ | refine zc ?_ | refine zi ?_ | refine zj ?_ | refine zm ?_ | refine zn ?_ | refine zu ?_ | refine zx ?_ | refine zy ?_ | refine zz ?_ | refine zza ?_ | refine zzb ?_ | refine zzc ?_ | refine zzd ?_ | refine zzf ?_ | refine zzg ?_)
    exact cw_ret1 rfl rfl ⟨rfl, by simp⟩
theorem ref10_Build4 {va : Value} {l : List Pr} {H : Heap} (hA : Ps H va l) (hk : ∀ p ∈ l, p.1.length ≤ 65535) (hl : l.length ≤ 10000) : Ret Try.prog 40 [.int .i64 4, va] H (fun v H' => H = H' ∧ v = .int .i64 (needs l)) := by
  have sA := hA.sl
  have cA := sA.cap
  have hbd := needs_bd hk
  refine ret_of Try.func40 rfl rfl rfl rfl ?_
  intro w0
  repeat (first | refine za ?_ | refine zb ?_ | refine zc ?_ | refine zj ?_ | refine zl ?_ | refine zt ?_ | refine zv ?_ | refine zw ?_ | refine zx ?_ | refine zy ?_ | refine zz ?_ | refine zza ?_ | refine zzb ?_ | refine zzc ?_ | refine zzd ?_ | refine zze ?_ | refine zzf ?_ | refine zzg ?_)
  refine cw_loop (fun s : Nat × Nat => [(0, .int .i64 4), (1, va), (5, .int .i64 s.2), (6, .int .i64 s.1)]) (fun s H' => H = H' ∧ s.1 ≤ l.length ∧ s.2 = needs (l.take s.1)) (fun s => l.length - s.1) (0, 0) (by repeat (first | exact True.intro | refine ⟨rfl, ?_⟩)) ⟨rfl, Nat.zero_le _, by simp [needs]⟩ ?_
  rintro ⟨j, n⟩ _ ⟨rfl, hj, hn⟩
  simp only at hj hn ⊢
  have hnle := needs_le l j
  repeat (first | refine za ?_ | refine zb ?_ | refine zc ?_ | refine zj ?_ | refine zl ?_ | refine zt ?_ | refine zv ?_ | refine zw ?_ | refine zx ?_ | refine zy ?_ | refine zz ?_ | refine zza ?_ | refine zzb ?_ | refine zzc ?_ | refine zzd ?_ | refine zze ?_ | refine zzf ?_ | refine zzg ?_)
  refine cw_cond rfl (fun h1 => ?_) (fun h1 => ?_) <;> (try simp at h1)
  · obtain ⟨p, hp⟩ := getp (l := l) h1
    obtain ⟨kk, a1, a2, a3⟩ := hA.at_ j p hp
    have hpl := hk p (List.mem_of_getElem? hp)
    have sK := a3.sl
    have hnx := needs_take hp
    have hnle2 := needs_le l (j + 1)
    repeat (first | refine za ?_ | refine zb ?_ | refine zc ?_ | refine zj ?_ | refine zl ?_ | refine zt ?_ | refine zv ?_ | refine zw ?_ | refine zx ?_ | refine zy ?_ | refine zz ?_ | refine zza ?_ | refine zzb ?_ | refine zzc ?_ | refine zzd ?_ | refine zze ?_ | refine zzf ?_ | refine zzg ?_)
    refine x_load rfl rfl (hpmt (a1)) rfl trivial ?_
    repeat (first | refine za ?_ | refine zb ?_ | refine zc ?_ | refine zj ?_ | refine zl ?_ | refine zt ?_ | refine zv ?_ | refine zw ?_ | refine zx ?_ | refine zy ?_ | refine zz ?_ | refine zza ?_ | refine zzb ?_ | refine zzc ?_ | refine zzd ?_ | refine zze ?_ | refine zzf ?_ | refine zzg ?_)
    refine x_call rfl rfl rfl trivial (ref10_Put4 hpl) ?_
    rintro _ _ ⟨rfl, rfl⟩
    refine ⟨trivial, ?_⟩
    repeat (first | refine za ?_ | refine zb ?_ | refine zc ?_ | refine zj ?_ | refine zl ?_ | refine zt ?_ | refine zv ?_ | refine zw ?_ | refine zx ?_ | refine zy ?_ | refine zz ?_ | refine zza ?_ | refine zzb ?_ | refine zzc ?_ | refine zzd ?_ | refine zze ?_ | refine zzf ?_ | refine zzg ?_)
    refine nw_round (j + 1, n + (2 * p.1.length + 12)) (by repeat (first | exact True.intro | refine ⟨rfl, ?_⟩)) ⟨rfl, by simp only; omega, by simp only; omega⟩ (by simp only; omega)
  · have hjl : j = l.length := by omega
    subst hjl
    rw [List.take_length] at hn
    subst hn
    repeat (first | refine za ?_ | refine zb ?_ | refine zc ?_ | refine zj ?_ | refine zl ?_ | refine zt ?_ | refine zv ?_ | refine zw ?_ | refine zx ?_ | refine zy ?_ | refine zz ?_ | refine zza ?_ | refine zzb ?_ | refine zzc ?_ | refine zzd ?_ | refine zze ?_ | refine zzf ?_ | refine zzg ?_)
    exact cw_ret1 rfl rfl ⟨rfl, rfl⟩
theorem buildT_size {l : List Pr} (h : BT.Ok [] l) : (buildT l).size ≤ needs l := by
  unfold buildT
  split
  · exact Nat.zero_le _
  · rename_i hne
    refine Nat.le_trans (BT.built_size 70000 (by simp) h hne) ?_
    unfold needs
    simp only [List.length_nil, Nat.sub_zero]
    clear h hne
    induction l with
    | nil => simp
    | cons a l ih => simp only [List.map_cons, List.sum_cons]; omega
end Go.Proofs.Ytaloblomncjgkaa.X
