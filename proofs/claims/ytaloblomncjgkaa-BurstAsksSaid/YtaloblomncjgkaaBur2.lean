/- The package burst: how many keys there are below a node, which, and whether they are few. -/
import Derived.Test.YtaloblomncjgkaaBur
namespace Go.Proofs.Ytaloblomncjgkaa.X
open Go Go.Proofs
set_option linter.unusedVariables false
set_option linter.unusedSimpArgs false
set_option maxRecDepth 10000
set_option maxHeartbeats 2000000

theorem burst_count {L : Lab} : ∀ (t : BT) {w : Bytes} {b : Nat} {H : Heap}, Tr L H t w b → t.count ≤ 1000000000000 → Ret Try.prog 89 [ptr b 0] H (fun r H' => Keep Non H H' ∧ r = .int .i64 t.count) := by
  intro t
  induction t with
  | nil => intro w b H hT _; exact hT.elim
  | shelf ps =>
    intro w b H hT _
    obtain ⟨h0, vw, vp, q, h1, h2, h3, h4, h5⟩ := hT
    have sP := h3.sl
    have c1 : cel H b 1 = some vp := by rw [h1.cel]; rfl
    have c2 : cel H b 2 = some (.bool false) := by rw [h1.cel]; rfl
    have c4 : cel H b 4 = some (.map none) := by rw [h1.cel]; rfl
    refine ret_of Try.func89 rfl rfl rfl rfl ?_
    intro w0
    repeat (first | refine za ?_ | refine zb ?_ | refine zc ?_ | refine zj ?_ | refine zl ?_ | refine zr ?_ | refine zs ?_ | refine zt ?_ | refine zx ?_ | refine zy ?_ | refine zz ?_ | refine zza ?_ | refine zzb ?_ | refine zzc ?_ | refine zzd ?_ | refine zze ?_ | refine zzf ?_ | refine zzg ?_)
    refine x_load rfl rfl (hpmt (c1)) rfl trivial ?_
    repeat (first | refine za ?_ | refine zb ?_ | refine zc ?_ | refine zj ?_ | refine zl ?_ | refine zr ?_ | refine zs ?_ | refine zt ?_ | refine zx ?_ | refine zy ?_ | refine zz ?_ | refine zza ?_ | refine zzb ?_ | refine zzc ?_ | refine zzd ?_ | refine zze ?_ | refine zzf ?_ | refine zzg ?_)
    refine x_load rfl rfl (hpmt (c2)) rfl trivial ?_
    repeat (first | refine za ?_ | refine zb ?_ | refine zc ?_ | refine zj ?_ | refine zl ?_ | refine zr ?_ | refine zs ?_ | refine zt ?_ | refine zx ?_ | refine zy ?_ | refine zz ?_ | refine zza ?_ | refine zzb ?_ | refine zzc ?_ | refine zzd ?_ | refine zze ?_ | refine zzf ?_ | refine zzg ?_)
    refine x_load rfl rfl (hpmt (c4)) rfl trivial ?_
    refine x_range0 rfl rfl rfl trivial ?_
    intro H1 hi1 hk1 hs1
    refine ⟨trivial, ?_⟩
    repeat (first | refine za ?_ | refine zb ?_ | refine zc ?_ | refine zj ?_ | refine zl ?_ | refine zr ?_ | refine zs ?_ | refine zt ?_ | refine zx ?_ | refine zy ?_ | refine zz ?_ | refine zza ?_ | refine zzb ?_ | refine zzc ?_ | refine zzd ?_ | refine zze ?_ | refine zzf ?_ | refine zzg ?_)
    refine cw_loop (fun _ : Unit => [(3, .int .i64 ps.length), (21, ptr H.size 0)]) (fun _ H' => H' = H1) (fun _ => 0) () (by repeat (first | exact True.intro | refine ⟨rfl, ?_⟩)) rfl ?_
    rintro _ _ rfl
    repeat (first | refine za ?_ | refine zb ?_ | refine zc ?_ | refine zj ?_ | refine zl ?_ | refine zr ?_ | refine zs ?_ | refine zt ?_ | refine zx ?_ | refine zy ?_ | refine zz ?_ | refine zza ?_ | refine zzb ?_ | refine zzc ?_ | refine zzd ?_ | refine zze ?_ | refine zzf ?_ | refine zzg ?_)
    refine x_next0 rfl rfl hi1 rfl trivial ?_
    refine ⟨trivial, ?_⟩
    repeat (first | refine za ?_ | refine zb ?_ | refine zc ?_ | refine zj ?_ | refine zl ?_ | refine zr ?_ | refine zs ?_ | refine zt ?_ | refine zx ?_ | refine zy ?_ | refine zz ?_ | refine zza ?_ | refine zzb ?_ | refine zzc ?_ | refine zzd ?_ | refine zze ?_ | refine zzf ?_ | refine zzg ?_)
    exact cw_ret1 rfl rfl ⟨hk1, rfl⟩
  | node own kids ih =>
    intro w b H hT hsz
    obtain ⟨h0, vw, m, f, h1, h2, h3, h4, h5⟩ := hT
    have c1 : cel H b 1 = some (.slice none 0 0) := by rw [h1.cel]; rfl
    have c2 : cel H b 2 = some (.bool own.isSome) := by rw [h1.cel]; rfl
    have c4 : cel H b 4 = some (.map (some m)) := by rw [h1.cel]; rfl
    have s0 : IsSl (.slice none 0 0) 0 := isSl_nil
    obtain ⟨n0, hn0⟩ : ∃ n0, n0 = if own.isSome then 1 else 0 := ⟨_, rfl⟩
    have hcnt : (BT.node own kids).count = n0 + sumB (fun b => (kids b).count) := by rw [hn0]; rfl
    rw [hcnt] at hsz ⊢
    refine ret_of Try.func89 rfl rfl rfl rfl ?_
    intro w0
    repeat (first | refine za ?_ | refine zb ?_ | refine zc ?_ | refine zj ?_ | refine zl ?_ | refine zr ?_ | refine zs ?_ | refine zt ?_ | refine zx ?_ | refine zy ?_ | refine zz ?_ | refine zza ?_ | refine zzb ?_ | refine zzc ?_ | refine zzd ?_ | refine zze ?_ | refine zzf ?_ | refine zzg ?_)
    refine x_load rfl rfl (hpmt (c1)) rfl trivial ?_
    repeat (first | refine za ?_ | refine zb ?_ | refine zc ?_ | refine zj ?_ | refine zl ?_ | refine zr ?_ | refine zs ?_ | refine zt ?_ | refine zx ?_ | refine zy ?_ | refine zz ?_ | refine zza ?_ | refine zzb ?_ | refine zzc ?_ | refine zzd ?_ | refine zze ?_ | refine zzf ?_ | refine zzg ?_)
    refine x_load rfl rfl (hpmt (c2)) rfl trivial ?_
    repeat (first | refine za ?_ | refine zb ?_ | refine zc ?_ | refine zj ?_ | refine zl ?_ | refine zr ?_ | refine zs ?_ | refine zt ?_ | refine zx ?_ | refine zy ?_ | refine zz ?_ | refine zza ?_ | refine zzb ?_ | refine zzc ?_ | refine zzd ?_ | refine zze ?_ | refine zzf ?_ | refine zzg ?_)
    refine cw_cut (fun _ : Unit => [(0, ptr b 0), (3, .int .i64 n0)]) (fun _ H' => H = H') ?_ ?_
    · cases own with
      | none =>
        have hn0 : n0 = 0 := hn0
        subst hn0
        repeat (first | refine za ?_ | refine zb ?_ | refine zc ?_ | refine zj ?_ | refine zl ?_ | refine zr ?_ | refine zs ?_ | refine zt ?_ | refine zx ?_ | refine zy ?_ | refine zz ?_ | refine zza ?_ | refine zzb ?_ | refine zzc ?_ | refine zzd ?_ | refine zze ?_ | refine zzf ?_ | refine zzg ?_)
        exact nw_meet () (by repeat (first | exact True.intro | refine ⟨rfl, ?_⟩)) rfl
      | some v =>
        have hn0 : n0 = 1 := hn0
        subst hn0
        repeat (first | refine za ?_ | refine zb ?_ | refine zc ?_ | refine zj ?_ | refine zl ?_ | refine zr ?_ | refine zs ?_ | refine zt ?_ | refine zx ?_ | refine zy ?_ | refine zz ?_ | refine zza ?_ | refine zzb ?_ | refine zzc ?_ | refine zzd ?_ | refine zze ?_ | refine zzf ?_ | refine zzg ?_)
        exact nw_meet () (by repeat (first | exact True.intro | refine ⟨rfl, ?_⟩)) rfl
    rintro _ _ rfl
    repeat (first | refine za ?_ | refine zb ?_ | refine zc ?_ | refine zj ?_ | refine zl ?_ | refine zr ?_ | refine zs ?_ | refine zt ?_ | refine zx ?_ | refine zy ?_ | refine zz ?_ | refine zza ?_ | refine zzb ?_ | refine zzc ?_ | refine zzd ?_ | refine zze ?_ | refine zzf ?_ | refine zzg ?_)
    refine x_load rfl rfl (hpmt (c4)) rfl trivial ?_
    refine x_range rfl rfl h4 rfl trivial ?_
    intro H1 hi1 hk1 hs1
    refine ⟨trivial, ?_⟩
    repeat (first | refine za ?_ | refine zb ?_ | refine zc ?_ | refine zj ?_ | refine zl ?_ | refine zr ?_ | refine zs ?_ | refine zt ?_ | refine zx ?_ | refine zy ?_ | refine zz ?_ | refine zza ?_ | refine zzb ?_ | refine zzc ?_ | refine zzd ?_ | refine zze ?_ | refine zzf ?_ | refine zzg ?_)
    refine cw_loop (fun s : (UInt8 → Bool) × Nat => [(3, .int .i64 s.2), (21, ptr H.size 0)]) (fun s H' => s.2 = n0 + sumB (fun b => if s.1 b then (kids b).count else 0) ∧ Keep Non H H' ∧ It H' H.size m f s.1) (fun s => leftB s.1) (fun _ => false, n0) (by repeat (first | exact True.intro | refine ⟨rfl, ?_⟩)) ⟨by simp [sumB_zero], hk1, hi1⟩ ?_
    rintro ⟨S, n⟩ H2 ⟨hn, hk2, hi2⟩
    dsimp only at hn hi2 ⊢
    have hle := part_le (S := S) (g := fun b => (kids b).count)
    repeat (first | refine za ?_ | refine zb ?_ | refine zc ?_ | refine zj ?_ | refine zl ?_ | refine zr ?_ | refine zs ?_ | refine zt ?_ | refine zx ?_ | refine zy ?_ | refine zz ?_ | refine zza ?_ | refine zzb ?_ | refine zzc ?_ | refine zzd ?_ | refine zze ?_ | refine zzf ?_ | refine zzg ?_)
    refine x_next rfl rfl hi2 rfl trivial (fun hall => ⟨trivial, ?_⟩) (fun c kk H3 hf hS hi3 hk3 hs3 => ⟨trivial, ?_⟩)
    · repeat (first | refine za ?_ | refine zb ?_ | refine zc ?_ | refine zj ?_ | refine zl ?_ | refine zr ?_ | refine zs ?_ | refine zt ?_ | refine zx ?_ | refine zy ?_ | refine zz ?_ | refine zza ?_ | refine zzb ?_ | refine zzc ?_ | refine zzd ?_ | refine zze ?_ | refine zzf ?_ | refine zzg ?_)
      have := sumB_part (S := S) (g := fun b => (kids b).count) (fun c hc => by
        rcases h5 c with ⟨_, e⟩ | ⟨x, e, _⟩
        · rw [e]; rfl
        · have := hall c x e; rw [hc] at this; cases this)
      exact cw_ret1 rfl rfl ⟨hk2, by rw [hn, this]⟩
    · repeat (first | refine za ?_ | refine zb ?_ | refine zc ?_ | refine zj ?_ | refine zl ?_ | refine zr ?_ | refine zs ?_ | refine zt ?_ | refine zx ?_ | refine zy ?_ | refine zz ?_ | refine zza ?_ | refine zzb ?_ | refine zzc ?_ | refine zzd ?_ | refine zze ?_ | refine zzf ?_ | refine zzg ?_)
      refine x_entry rfl rfl (hpmt hi3) rfl trivial ?_
      have hk03 : Keep Non H H3 := keep_at hk2 hk3 (Nat.le_refl _)
      obtain ⟨x, hx, ht⟩ : ∃ x, f c = some x ∧ Tr L H (kids c) (w ++ [c]) x := by
        rcases h5 c with ⟨e, _⟩ | h
        · rw [hf] at e; cases e
        · exact h
      rw [hf] at hx
      cases hx
      have hcle := le_sumB (fun b => (kids b).count) c
      have hturn := sumB_turn (S := S) (g := fun b => (kids b).count) hS
      have hle' := part_le (S := setF S c true) (g := fun b => (kids b).count)
      repeat (first | refine za ?_ | refine zb ?_ | refine zc ?_ | refine zj ?_ | refine zl ?_ | refine zr ?_ | refine zs ?_ | refine zt ?_ | refine zx ?_ | refine zy ?_ | refine zz ?_ | refine zza ?_ | refine zzb ?_ | refine zzc ?_ | refine zzd ?_ | refine zze ?_ | refine zzf ?_ | refine zzg ?_)
      refine x_call rfl rfl rfl trivial (ih c (ht.keepN hk03) (by omega)) ?_
      rintro _ H4 ⟨hk4, rfl⟩
      refine ⟨trivial, ?_⟩
      repeat (first | refine za ?_ | refine zb ?_ | refine zc ?_ | refine zj ?_ | refine zl ?_ | refine zr ?_ | refine zs ?_ | refine zt ?_ | refine zx ?_ | refine zy ?_ | refine zz ?_ | refine zza ?_ | refine zzb ?_ | refine zzc ?_ | refine zzd ?_ | refine zze ?_ | refine zzf ?_ | refine zzg ?_)
      refine nw_round (setF S c true, n + (kids c).count) (by repeat (first | exact True.intro | refine ⟨rfl, ?_⟩)) ⟨by show n + _ = n0 + sumB _; rw [hturn, hn]; omega, hk03.non_trans hk4, hi3.it.keep hk4 (fun h => h) (fun h => h)⟩ (leftB_turn hS)

/-- pairs of a tree, told: in its own row, or in one made anew -/
structure PairsT (L : Lab) (H : Heap) (t : BT) (L' : Lab) (H' : Heap) (v : Value) (l : List Pr) : Prop where
  keep : Keep Non H H'
  ext : Lab.Ext H.size L L'
  lin : L'.In H'
  row : ∃ q, IsSl v l.length ∧ Pk (KL L' H') q l ∧ Cels H' (sb v) (so v) (pcs q) ∧ ((∀ ps, t ≠ .shelf ps) → Own 2 H' v l.length (pcs q) ∧ (0 < sc v → H.size ≤ sb v ∧ L' (sb v) = none))
theorem BT.pairs_len (t : BT) (w : Bytes) : (t.pairs w).length = t.count := (BT.count_pairs t w).symm
theorem burst_pairs : ∀ (t : BT) {L : Lab} {w : Bytes} {b : Nat} {H : Heap}, Tr L H t w b → L.In H → t.count ≤ 1000000 → t.Wf0 w → Ret Try.prog 107 [ptr b 0] H (fun r H' => ∃ L', PairsT L H t L' H' r (t.pairs w)) := by
  intro t
  induction t with
  | nil => intro L w b H hT _ _ _; exact hT.elim
  | shelf ps =>
    intro L w b H hT hL _ _
    obtain ⟨h0, vw, vp, q, h1, h2, h3, h4, h5⟩ := hT
    have sP := h3.sl
    have c1 : cel H b 1 = some vp := by rw [h1.cel]; rfl
    have c4 : cel H b 4 = some (.map none) := by rw [h1.cel]; rfl
    refine ret_of Try.func107 rfl rfl rfl rfl ?_
    intro w0
    repeat (first | refine za ?_ | refine zb ?_ | refine zc ?_ | refine zh ?_ | refine zj ?_ | refine zs ?_ | refine zt ?_ | refine zx ?_ | refine zy ?_ | refine zz ?_ | refine zza ?_ | refine zzb ?_ | refine zzc ?_ | refine zzd ?_ | refine zze ?_ | refine zzf ?_ | refine zzg ?_)
    refine x_load rfl rfl (hpmt (c4)) rfl trivial ?_
    refine x_meqn rfl rfl rfl rfl trivial ?_
    repeat (first | refine za ?_ | refine zb ?_ | refine zc ?_ | refine zh ?_ | refine zj ?_ | refine zs ?_ | refine zt ?_ | refine zx ?_ | refine zy ?_ | refine zz ?_ | refine zza ?_ | refine zzb ?_ | refine zzc ?_ | refine zzd ?_ | refine zze ?_ | refine zzf ?_ | refine zzg ?_)
    refine x_load rfl rfl (hpmt (c1)) rfl trivial ?_
    repeat (first | refine za ?_ | refine zb ?_ | refine zc ?_ | refine zh ?_ | refine zj ?_ | refine zs ?_ | refine zt ?_ | refine zx ?_ | refine zy ?_ | refine zz ?_ | refine zza ?_ | refine zzb ?_ | refine zzc ?_ | refine zzd ?_ | refine zze ?_ | refine zzf ?_ | refine zzg ?_)
    exact cw_ret1 rfl rfl ⟨L, Keep.refl _ _, Lab.Ext.refl _ _, hL, q, h3.sl, h5, h3.cels, fun h => absurd rfl (h ps)⟩
  | node own kids ih =>
    intro L w b H hT hL hsz hwf
    have hlenT := BT.pairs_len (.node own kids) w
    obtain ⟨h0, vw, m, f, h1, h2, h3, h4, h5⟩ := hT
    have c0 : cel H b 0 = some vw := by rw [h1.cel]; rfl
    have c2 : cel H b 2 = some (.bool own.isSome) := by rw [h1.cel]; rfl
    have c3 : cel H b 3 = some (.int .u64 (own.getD 0)) := by rw [h1.cel]; rfl
    have c4 : cel H b 4 = some (.map (some m)) := by rw [h1.cel]; rfl
    refine ret_of Try.func107 rfl rfl rfl rfl ?_
    intro w0
    repeat (first | refine za ?_ | refine zb ?_ | refine zc ?_ | refine zh ?_ | refine zj ?_ | refine zs ?_ | refine zt ?_ | refine zx ?_ | refine zy ?_ | refine zz ?_ | refine zza ?_ | refine zzb ?_ | refine zzc ?_ | refine zzd ?_ | refine zze ?_ | refine zzf ?_ | refine zzg ?_)
    refine x_load rfl rfl (hpmt (c4)) rfl trivial ?_
    refine x_meqn rfl rfl rfl rfl trivial ?_
    repeat (first | refine za ?_ | refine zb ?_ | refine zc ?_ | refine zh ?_ | refine zj ?_ | refine zs ?_ | refine zt ?_ | refine zx ?_ | refine zy ?_ | refine zz ?_ | refine zza ?_ | refine zzb ?_ | refine zzc ?_ | refine zzd ?_ | refine zze ?_ | refine zzf ?_ | refine zzg ?_)
    refine x_load rfl rfl (hpmt (c2)) rfl trivial ?_
    repeat (first | refine za ?_ | refine zb ?_ | refine zc ?_ | refine zh ?_ | refine zj ?_ | refine zs ?_ | refine zt ?_ | refine zx ?_ | refine zy ?_ | refine zz ?_ | refine zza ?_ | refine zzb ?_ | refine zzc ?_ | refine zzd ?_ | refine zze ?_ | refine zzf ?_ | refine zzg ?_)
    refine cw_cut (fun v : Value => [(0, ptr b 0), (3, v)]) (fun v H' => ∃ L', Keep Non H H' ∧ Lab.Ext H.size L L' ∧ L'.In H' ∧ ∃ q, Pk (KL L' H') q (BT.ownP own w) ∧ Own 2 H' v (BT.ownP own w).length (pcs q) ∧ (0 < sc v → H.size ≤ sb v ∧ L' (sb v) = none)) ?_ ?_
    · cases own with
      | none =>
        repeat (first | refine za ?_ | refine zb ?_ | refine zc ?_ | refine zh ?_ | refine zj ?_ | refine zs ?_ | refine zt ?_ | refine zx ?_ | refine zy ?_ | refine zz ?_ | refine zza ?_ | refine zzb ?_ | refine zzc ?_ | refine zzd ?_ | refine zze ?_ | refine zzf ?_ | refine zzg ?_)
        exact nw_meet _ (by repeat (first | exact True.intro | refine ⟨rfl, ?_⟩)) ⟨L, Keep.refl _ _, Lab.Ext.refl _ _, hL, [], Pk.nil _, Own.nil 2 H, fun h => by simp [sc] at h⟩
      | some x =>
        have hkr := Keep.refl Non H
        repeat (first | refine za ?_ | refine zb ?_ | refine zc ?_ | refine zh ?_ | refine zj ?_ | refine zs ?_ | refine zt ?_ | refine zx ?_ | refine zy ?_ | refine zz ?_ | refine zza ?_ | refine zzb ?_ | refine zzc ?_ | refine zzd ?_ | refine zze ?_ | refine zzf ?_ | refine zzg ?_)
        refine cw_held (fun _ => Keep Non H) ⟨[5, 11, 12], [(4, 0), (9, 0)]⟩ (.op 0 (.op 1 (.op 2 (.op 3 (.op 4 (.op 6 (.op 7 (.op 8 (.op 9 (.op 5 (.op 10 (.op 11 (.op 12 (.op 13 (.nil))))))))))))))) panicOk_body mixed (by kernel_rfl) ?_
        repeat (first | refine za ?_ | refine zb ?_ | refine zc ?_ | refine zj ?_ | refine zs ?_ | refine zt ?_ | refine zx ?_ | refine zy ?_ | refine zz ?_ | refine zza ?_ | refine zzb ?_ | refine zzc ?_ | refine zzd ?_ | refine zze ?_ | refine zzf ?_ | refine zzg ?_)
        refine x_load rfl rfl (hpmk rfl (fun _ hk => hk.cel c0 (fun h => h))) rfl (okq_load rfl rfl (by assumption)) ?_
        repeat (first | refine za ?_ | refine zb ?_ | refine zc ?_ | refine zj ?_ | refine zs ?_ | refine zt ?_ | refine zx ?_ | refine zy ?_ | refine zz ?_ | refine zza ?_ | refine zzb ?_ | refine zzc ?_ | refine zzd ?_ | refine zze ?_ | refine zzf ?_ | refine zzg ?_)
        refine x_load rfl rfl (hpmk rfl (fun _ hk => hk.cel c3 (fun h => h))) rfl (okq_load rfl rfl (by assumption)) ?_
        refine x_call rfl rfl rfl ⟨rfl, rfl⟩ (slices_Clone h2.1 (by have := hwf.1; omega)) ?_
        rintro c H1 ⟨hk1, hc1, hf1⟩
        refine ⟨okm_keep hk1 (fun _ _ h => h), ?_⟩
        repeat (first | refine za ?_ | refine zb ?_ | refine zc ?_ | refine zj ?_ | refine zs ?_ | refine zt ?_ | refine zx ?_ | refine zy ?_ | refine zz ?_ | refine zza ?_ | refine zzb ?_ | refine zzc ?_ | refine zzd ?_ | refine zze ?_ | refine zzf ?_ | refine zzg ?_)
        refine x_build (cs := [c, .int .u64 (x)]) rfl rfl rfl (two_oneC (isSl_oneC hc1.sl)) rfl (okq_reg rfl rfl) ?_
        refine x_buildSliceS1 (by rfl) rfl rfl (by omega) (by rfl) rfl ⟨rfl, rfl⟩ ?_
        intro H2 hn2
        have hk2 := hn2.old hk1
        refine ⟨okm_keep hn2.keep (fun _ _ h => h.elim), ?_⟩
        refine x_append (by rfl) (by rfl) (by rfl) rfl rfl rfl (Own.nil 2 H2) (isSl_some (Nat.le_refl _) (by omega)) (m := 1) (cx := [c, .int .u64 x]) rfl (hn2.blk.cels 0 2 (by simp)) (two_oneC' (isSl_oneC hc1.sl)) (by omega) rfl ⟨rfl, rfl⟩ ?_
        intro v H3 hap
        have hk3 := hap.old (Fresh.nil H2) (Keep.refl _ _)
        refine ⟨okm_keep hk3 (fun _ _ h => h), ?_⟩
        have hf3 := hap.fresh (Fresh.nil H2) (Nat.le_refl _)
        have hs1 := hk1.size
        have hs2 := hn2.size
        have hs3 := hk3.size
        repeat (first | refine za ?_ | refine zb ?_ | refine zc ?_ | refine zj ?_ | refine zs ?_ | refine zt ?_ | refine zx ?_ | refine zy ?_ | refine zz ?_ | refine zza ?_ | refine zzb ?_ | refine zzc ?_ | refine zzd ?_ | refine zze ?_ | refine zzf ?_ | refine zzg ?_)
        repeat (first | refine za ?_ | refine zb ?_ | refine zc ?_ | refine zh ?_ | refine zj ?_ | refine zs ?_ | refine zt ?_ | refine zx ?_ | refine zy ?_ | refine zz ?_ | refine zza ?_ | refine zzb ?_ | refine zzc ?_ | refine zzd ?_ | refine zze ?_ | refine zzf ?_ | refine zzg ?_)
        have hcc : w ≠ [] → H.size ≤ sb c ∧ sb c < H1.size := fun hne => by
          have := List.length_pos_iff.2 hne
          have := hc1.sl.cap.1
          exact ⟨hf1 (by omega), hc1.lt (by omega)⟩
        refine nw_meet v (by repeat (first | exact True.intro | refine ⟨rfl, ?_⟩)) ⟨if w = [] then L else L.set (sb c) (0, []), hk2.non_trans hk3, ?_, ?_, [(c, x)], ?_, ?_, fun hc => ?_⟩
        · split
          · exact Lab.Ext.refl _ _
          · rename_i hne
            exact Lab.Ext.set (hL.off (hcc hne).1) (hcc hne).1
        · split
          · exact hL.mono (by omega)
          · rename_i hne
            exact (hL.mono (H' := H3) (by omega)).set (by have := (hcc hne).2; omega)
        · refine Pk.one (p := (w, x)) ⟨(hc1.bs.keepN hn2.keep).keepN hk3, fun hne => ?_⟩
          have hne : w ≠ [] := hne
          rw [if_neg hne, Lab.set_at]
        · have := hap.own
          simpa [pcs, BT.ownP] using this
        · have := hf3 hc
          refine ⟨by omega, ?_⟩
          split
          · exact hL.off (by omega)
          · rename_i hne
            rw [Lab.set_ne (by have := (hcc hne).2; omega)]
            exact hL.off (by omega)
    rintro v0 H0 ⟨L0, hk0, hx0, hL0, q0, hq0, ho0, hf0⟩
    repeat (first | refine za ?_ | refine zb ?_ | refine zc ?_ | refine zh ?_ | refine zj ?_ | refine zs ?_ | refine zt ?_ | refine zx ?_ | refine zy ?_ | refine zz ?_ | refine zza ?_ | refine zzb ?_ | refine zzc ?_ | refine zzd ?_ | refine zze ?_ | refine zzf ?_ | refine zzg ?_)
    refine cw_loop (fun s : Nat × Value => [(0, ptr b 0), (3, s.2), (32, .int .i64 s.1)]) (fun s H' => s.1 ≤ 256 ∧ ∃ L', Keep Non H H' ∧ Lab.Ext H.size L L' ∧ L'.In H' ∧ ∃ q l, l = BT.ownP own w ++ (allB.take s.1).flatMap (fun b => (kids b).pairs (w ++ [b])) ∧ Pk (KL L' H') q l ∧ Own 2 H' s.2 l.length (pcs q) ∧ (0 < sc s.2 → H.size ≤ sb s.2 ∧ L' (sb s.2) = none)) (fun s => 256 - s.1) (0, v0) (by repeat (first | exact True.intro | refine ⟨rfl, ?_⟩)) ⟨by omega, L0, hk0, hx0, hL0, q0, _, by simp, hq0, ho0, hf0⟩ ?_
    rintro ⟨j, v⟩ H1 ⟨hj, L1, hk1, hx1, hL1, q, l, hl, hq, ho, hfr⟩
    dsimp only at hj hl ho hfr ⊢
    repeat (first | refine za ?_ | refine zb ?_ | refine zc ?_ | refine zh ?_ | refine zj ?_ | refine zs ?_ | refine zt ?_ | refine zx ?_ | refine zy ?_ | refine zz ?_ | refine zza ?_ | refine zzb ?_ | refine zzc ?_ | refine zzd ?_ | refine zze ?_ | refine zzf ?_ | refine zzg ?_)
    refine cw_cond rfl (fun hc => ?_) (fun hc => ?_) <;> (try simp at hc)
    · have hc : j < 256 := by omega
      obtain ⟨c, hcj⟩ : ∃ c, c = UInt8.ofNat j := ⟨_, rfl⟩
      have hget : allB[j]? = some c := by rw [hcj]; exact allB_get hc
      have hjc : IntKind.u8.wrap (j : Int) = (c.toNat : Int) := by rw [hcj, wrap_u8_mod]; simp
      have hnext : (allB.take (j + 1)).flatMap (fun b => (kids b).pairs (w ++ [b])) = (allB.take j).flatMap (fun b => (kids b).pairs (w ++ [b])) ++ (kids c).pairs (w ++ [c]) := by
        rw [List.take_add_one, hget]
        simp
      have c4' := hk1.cel c4 (fun h => h)
      have h4' := h4.keep hk1 (fun h => h)
      repeat (first | refine za ?_ | refine zb ?_ | refine zc ?_ | refine zh ?_ | refine zj ?_ | refine zs ?_ | refine zt ?_ | refine zx ?_ | refine zy ?_ | refine zz ?_ | refine zza ?_ | refine zzb ?_ | refine zzc ?_ | refine zzd ?_ | refine zze ?_ | refine zzf ?_ | refine zzg ?_)
      refine x_load rfl rfl (hpmt (c4')) rfl trivial ?_
      repeat (first | refine za ?_ | refine zb ?_ | refine zc ?_ | refine zh ?_ | refine zj ?_ | refine zs ?_ | refine zt ?_ | refine zx ?_ | refine zy ?_ | refine zz ?_ | refine zza ?_ | refine zzb ?_ | refine zzc ?_ | refine zzd ?_ | refine zze ?_ | refine zzf ?_ | refine zzg ?_)
      refine x_conv_int rfl rfl rfl trivial ?_
      rw [hjc]
      refine x_lookup rfl rfl rfl (hpmt h4') rfl trivial ?_
      rcases h5 c with ⟨hf, he⟩ | ⟨x, hf, ht⟩
      · rw [hf]
        repeat (first | refine za ?_ | refine zb ?_ | refine zc ?_ | refine zh ?_ | refine zj ?_ | refine zs ?_ | refine zt ?_ | refine zx ?_ | refine zy ?_ | refine zz ?_ | refine zza ?_ | refine zzb ?_ | refine zzc ?_ | refine zzd ?_ | refine zze ?_ | refine zzf ?_ | refine zzg ?_)
        refine nw_round (j + 1, v) (by repeat (first | exact True.intro | refine ⟨rfl, ?_⟩)) ⟨hc, L1, hk1, hx1, hL1, q, l, ?_, hq, ho, hfr⟩ (by show 256 - (j + 1) < 256 - j; omega)
        show l = _
        rw [hnext, he, hl]
        simp [BT.pairs]
      · rw [hf]
        have hlen : (BT.node own kids).count = (if own.isSome then 1 else 0) + sumB fun b => (kids b).count := rfl
        have hcle := le_sumB (fun b => (kids b).count) c
        have hsub : ∀ p ∈ (kids c).pairs (w ++ [c]), p ∈ (BT.node own kids).pairs w := fun p hp => by
          unfold BT.pairs
          exact List.mem_append.2 (.inr (List.mem_flatMap.2 ⟨c, mem_allB c, hp⟩))
        have hlle : l.length + ((kids c).pairs (w ++ [c])).length ≤ (BT.node own kids).count := by
          have e : ((BT.node own kids).pairs w).length = (BT.ownP own w ++ (allB.take (j + 1)).flatMap (fun b => (kids b).pairs (w ++ [b]))).length + ((allB.drop (j + 1)).flatMap (fun b => (kids b).pairs (w ++ [b]))).length := by
            conv => lhs; unfold BT.pairs
            conv => lhs; rw [← List.take_append_drop (j + 1) allB]
            rw [List.flatMap_append]
            simp only [List.length_append]
            omega
          rw [hnext, ← List.append_assoc, ← hl, List.length_append] at e
          omega
        have hplen := BT.pairs_len (kids c) (w ++ [c])
        repeat (first | refine za ?_ | refine zb ?_ | refine zc ?_ | refine zh ?_ | refine zj ?_ | refine zs ?_ | refine zt ?_ | refine zx ?_ | refine zy ?_ | refine zz ?_ | refine zza ?_ | refine zzb ?_ | refine zzc ?_ | refine zzd ?_ | refine zze ?_ | refine zzf ?_ | refine zzg ?_)
        have htl := ((ht.lab hx1.old).keepN hk1)
        refine x_call rfl rfl rfl trivial (ih c htl hL1 (by omega) (hwf.2 c)) ?_
        rintro r H2 ⟨L2, hP2⟩
        refine ⟨trivial, ?_⟩
        obtain ⟨q2, sR, hq2, hc2, _⟩ := hP2.row
        have hs1 := hk1.size
        have hs2 := hP2.keep.size
        have ho2 := ho.keep hP2.keep (fun _ h => h)
        have hnone : 0 < sc v → L2 (sb v) = none := fun hc => by rw [hP2.ext.low _ (ho.lt hc)]; exact (hfr hc).2
        repeat (first | refine za ?_ | refine zb ?_ | refine zc ?_ | refine zh ?_ | refine zj ?_ | refine zs ?_ | refine zt ?_ | refine zx ?_ | refine zy ?_ | refine zz ?_ | refine zza ?_ | refine zzb ?_ | refine zzc ?_ | refine zzd ?_ | refine zze ?_ | refine zzf ?_ | refine zzg ?_)
        refine x_append (by rfl) (by rfl) (by rfl) rfl rfl rfl ho2 sR (by rw [pcs_length, hq2.len]) hc2 (pcs_oneC hq2 (fun v b h => isSl_oneC h.1.sl)) (by omega) rfl trivial ?_
        intro v' H3 hap
        refine ⟨trivial, ?_⟩
        have hs3 := hap.keep.size
        have hkk : ∀ x, L2 x = some (0, []) → ¬ (x = sb v ∧ l.length + ((kids c).pairs (w ++ [c])).length ≤ sc v ∧ 0 < ((kids c).pairs (w ++ [c])).length) := fun x hx e => by
          have := hnone (by omega)
          rw [← e.1, hx] at this
          cases this
        repeat (first | refine za ?_ | refine zb ?_ | refine zc ?_ | refine zh ?_ | refine zj ?_ | refine zs ?_ | refine zt ?_ | refine zx ?_ | refine zy ?_ | refine zz ?_ | refine zza ?_ | refine zzb ?_ | refine zzc ?_ | refine zzd ?_ | refine zze ?_ | refine zzf ?_ | refine zzg ?_)
        refine nw_round (j + 1, v') (by repeat (first | exact True.intro | refine ⟨rfl, ?_⟩)) ⟨hc, L2, ?_, hx1.trans (hP2.ext.mono hs1), hP2.lin.mono hs3, q ++ q2, l ++ (kids c).pairs (w ++ [c]), ?_, ?_, ?_, fun hpos => ?_⟩ (by show 256 - (j + 1) < 256 - j; omega)
        · exact (hk1.non_trans hP2.keep).old hap.keep (fun x hx e => by have := (hfr (by omega)).1; omega)
        · show _ = _ ++ (allB.take (j + 1)).flatMap _
          rw [hnext, hl, List.append_assoc]
        · exact ((hq.mono fun _ _ hb => (hb.lab hP2.ext.old).keepN hP2.keep).append hq2).mono fun _ _ hb => hb.keep hap.keep hkk
        · rw [pcs_append, List.length_append]; exact hap.own
        · have hpos : 0 < sc v' := hpos
          show H.size ≤ sb v' ∧ L2 (sb v') = none
          rcases hap.place with ⟨e1, _, e3, e4, _⟩ | ⟨e1, _⟩
          · rw [e1]
            exact ⟨(hfr (by omega)).1, hnone (by omega)⟩
          · rw [e1]
            exact ⟨by omega, hP2.lin.off (Nat.le_refl _)⟩
    · have hj' : j = 256 := by omega
      subst hj'
      repeat (first | refine za ?_ | refine zb ?_ | refine zc ?_ | refine zh ?_ | refine zj ?_ | refine zs ?_ | refine zt ?_ | refine zx ?_ | refine zy ?_ | refine zz ?_ | refine zza ?_ | refine zzb ?_ | refine zzc ?_ | refine zzd ?_ | refine zze ?_ | refine zzf ?_ | refine zzg ?_)
      have e : l = (BT.node own kids).pairs w := by
        rw [hl]
        show _ = BT.ownP own w ++ allB.flatMap fun b => (kids b).pairs (w ++ [b])
        have : allB.take 256 = allB := List.take_of_length_le (by unfold allB; rw [List.length_map, List.length_range]; exact Nat.le_refl _)
        rw [this]
      subst e
      exact cw_ret1 rfl rfl ⟨L1, hk1, hx1, hL1, q, ho.sl, hq, ho.cels, fun _ => ⟨ho, hfr⟩⟩

theorem burst_few {t : BT} {L : Lab} {w : Bytes} {b : Nat} {H : Heap} (hT : Tr L H t w b) (hL : L.In H) (hc : t.count ≤ 1000000) (hw : t.Wf0 w) :
    Ret Try.prog 91 [ptr b 0] H (fun r H' => (4 < t.count ∧ Keep Non H H' ∧ r = .slice none 0 0) ∨ (t.count ≤ 4 ∧ ∃ L', PairsT L H t L' H' r (t.pairs w))) := by
  refine ret_of Try.func91 rfl rfl rfl rfl ?_
  intro w0
  repeat (first | refine za ?_ | refine zb ?_ | refine zj ?_ | refine zx ?_ | refine zy ?_ | refine zz ?_ | refine zzc ?_ | refine zzd ?_ | refine zzf ?_ | refine zzg ?_)
  refine x_call rfl rfl rfl trivial (burst_count t hT (by omega)) ?_
  rintro _ H1 ⟨hk1, rfl⟩
  refine ⟨trivial, ?_⟩
  repeat (first | refine za ?_ | refine zb ?_ | refine zj ?_ | refine zx ?_ | refine zy ?_ | refine zz ?_ | refine zzc ?_ | refine zzd ?_ | refine zzf ?_ | refine zzg ?_)
  refine cw_cond rfl (fun h1 => ?_) (fun h1 => ?_) <;> (try simp at h1)
  · repeat (first | refine za ?_ | refine zb ?_ | refine zj ?_ | refine zx ?_ | refine zy ?_ | refine zz ?_ | refine zzc ?_ | refine zzd ?_ | refine zzf ?_ | refine zzg ?_)
    exact cw_ret1 rfl rfl (.inl ⟨by omega, hk1, rfl⟩)
  · repeat (first | refine za ?_ | refine zb ?_ | refine zj ?_ | refine zx ?_ | refine zy ?_ | refine zz ?_ | refine zzc ?_ | refine zzd ?_ | refine zzf ?_ | refine zzg ?_)
    refine x_call rfl rfl rfl trivial (burst_pairs t (hT.keepN hk1) (hL.mono hk1.size) hc hw) ?_
    rintro r H2 ⟨L', hP⟩
    refine ⟨trivial, ?_⟩
    repeat (first | refine za ?_ | refine zb ?_ | refine zj ?_ | refine zx ?_ | refine zy ?_ | refine zz ?_ | refine zzc ?_ | refine zzd ?_ | refine zzf ?_ | refine zzg ?_)
    obtain ⟨q, g1, g2, g3, g4⟩ := hP.row
    exact cw_ret1 rfl rfl (.inr ⟨by omega, L', hk1.non_trans hP.keep, hP.ext.mono hk1.size, hP.lin, q, g1, g2, g3, fun h => ⟨(g4 h).1, fun hc => ⟨by have := ((g4 h).2 hc).1; have := hk1.size; omega, ((g4 h).2 hc).2⟩⟩⟩)
end Go.Proofs.Ytaloblomncjgkaa.X
