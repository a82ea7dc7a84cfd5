/- The package burst: where a key stands, how many there are. -/
import Derived.Test.YtaloblomncjgkaaTrr
namespace Go.Proofs.Ytaloblomncjgkaa.X
open Go Go.Proofs
set_option linter.unusedVariables false
set_option linter.unusedSimpArgs false
set_option maxRecDepth 10000
set_option maxHeartbeats 2000000

theorem burst_cmp {kk vk : Value} {c k : Bytes} {x : Int} {H : Heap} (hC : Bs H kk c) (hK : Bs H vk k) :
    Ret Try.prog 102 [.agg [kk, .int .u64 x].toArray, vk] H (fun r H' => Keep Non H H' ∧ r = .int .i64 (cmpB c k)) := by
  refine ret_of Try.func102 rfl rfl rfl rfl ?_
  intro w0
  repeat (first | refine za ?_ | refine zb ?_ | refine zt ?_ | refine zx ?_ | refine zy ?_ | refine zz ?_ | refine zzd ?_)
  refine x_box rfl rfl rfl trivial ?_
  intro H1 hn1
  refine ⟨trivial, ?_⟩
  have c0 : cel H1 H.size 0 = some kk := by rw [hn1.blk.cel]; rfl
  repeat (first | refine za ?_ | refine zb ?_ | refine zt ?_ | refine zx ?_ | refine zy ?_ | refine zz ?_ | refine zzd ?_)
  refine x_load rfl rfl (hpmt (c0)) rfl trivial ?_
  repeat (first | refine za ?_ | refine zb ?_ | refine zt ?_ | refine zx ?_ | refine zy ?_ | refine zz ?_ | refine zzd ?_)
  refine x_call rfl rfl rfl trivial (key_Compare (hC.keepN hn1.keep) (hK.keepN hn1.keep)) ?_
  rintro _ _ ⟨rfl, rfl⟩
  refine ⟨trivial, ?_⟩
  repeat (first | refine za ?_ | refine zb ?_ | refine zt ?_ | refine zx ?_ | refine zy ?_ | refine zz ?_ | refine zzd ?_)
  exact cw_ret1 rfl rfl ⟨hn1.keep, rfl⟩

theorem burst_at {L : Lab} {b : Nat} {vk : Value} {ps : List Pr} {w k : Bytes} {H : Heap} (hT : Tr L H (.shelf ps) w b) (hr : rises ps = true) (hl : ps.length ≤ 100000) (hK : Bs H vk k) :
    Ret Try.prog 83 [ptr b 0, vk] H (fun r H' => Keep Non H H' ∧ r = .tuple #[.int .i64 (rank ps k), .bool (there ps k)]) := by
  obtain ⟨h0, vw, vp, q, h1, h2, h3, h4, h5⟩ := hT
  have c1 : cel H b 1 = some vp := by rw [h1.cel]; rfl
  have hP : Ps H vp ps := ⟨h3.sl, q, h5.mono fun _ _ hb => hb.1, h3.cels⟩
  refine ret_of Try.func83 rfl rfl rfl rfl ?_
  intro w0
  repeat (first | refine za ?_ | refine zb ?_ | refine zr ?_ | refine zs ?_ | refine zt ?_ | refine zx ?_ | refine zy ?_ | refine zz ?_ | refine zzd ?_)
  refine x_load rfl rfl (hpmt (c1)) rfl trivial ?_
  repeat (first | refine za ?_ | refine zb ?_ | refine zr ?_ | refine zs ?_ | refine zt ?_ | refine zx ?_ | refine zy ?_ | refine zz ?_ | refine zzd ?_)
  refine x_call rfl rfl rfl trivial (slices_Search hP hK hr hl (fun H' hk' kk c x hb => burst_cmp hb (hK.keepN hk'))) ?_
  rintro _ H1 ⟨hk1, rfl⟩
  refine ⟨trivial, ?_⟩
  repeat (first | refine za ?_ | refine zb ?_ | refine zr ?_ | refine zs ?_ | refine zt ?_ | refine zx ?_ | refine zy ?_ | refine zz ?_ | refine zzd ?_)
  exact cw_ret2 rfl rfl rfl ⟨hk1, rfl⟩

/-- of a sum over bytes those whose turn was -/
theorem sumB_part {S : UInt8 → Bool} {g : UInt8 → Nat} (h : ∀ b, S b = false → g b = 0) : sumB (fun b => if S b then g b else 0) = sumB g := sumB_congr fun b => by
  cases hS : S b with
  | true => simp
  | false => simp [h b hS]
theorem sumB_turn {S : UInt8 → Bool} {g : UInt8 → Nat} {b : UInt8} (h : S b = false) : sumB (fun c => if setF S b true c then g c else 0) = sumB (fun c => if S c then g c else 0) + g b := by
  have := sumB_upd b (g := fun c => if S c then g c else 0) (g' := fun c => if setF S b true c then g c else 0) (fun c hc => by rw [setF_ne _ _ hc])
  simp only [setF_at, h, if_true] at this
  simpa using this
/-- how many turns are left -/
def leftB (S : UInt8 → Bool) : Nat := sumB fun b => if S b then 0 else 1
theorem leftB_turn {S : UInt8 → Bool} {b : UInt8} (h : S b = false) : leftB (setF S b true) < leftB S := by
  have := sumB_upd b (g := fun c => if S c then 0 else 1) (g' := fun c => if setF S b true c then 0 else 1) (fun c hc => by rw [setF_ne _ _ hc])
  simp only [setF_at, h, if_true] at this
  unfold leftB
  simp at this
  omega
theorem part_le {S : UInt8 → Bool} {g : UInt8 → Nat} : sumB (fun b => if S b then g b else 0) ≤ sumB g := sumB_le fun b => by split <;> omega

theorem burst_size {L : Lab} : ∀ (t : BT) {w : Bytes} {v : Value} {H : Heap}, Tv L H t w v → t.size ≤ 1000000000000 → Ret Try.prog 62 [v] H (fun r H' => Keep Non H H' ∧ r = .int .i64 t.size) := by
  intro t
  induction t with
  | nil =>
    intro w v H hT _
    rcases hT with ⟨_, rfl⟩ | ⟨b, _, h⟩
    · refine ret_of Try.func62 rfl rfl rfl rfl ?_
      intro w0
      repeat (first | refine za ?_ | refine zb ?_ | refine zc ?_ | refine zg ?_ | refine zj ?_ | refine zr ?_ | refine zs ?_ | refine zt ?_ | refine zx ?_ | refine zy ?_ | refine zz ?_ | refine zza ?_ | refine zzb ?_ | refine zzc ?_ | refine zzd ?_ | refine zze ?_ | refine zzf ?_ | refine zzg ?_)
      exact cw_ret1 rfl rfl ⟨Keep.refl _ _, rfl⟩
    · exact h.elim
  | shelf ps =>
    intro w v H hT _
    rcases hT with ⟨h, _⟩ | ⟨b, rfl, hT⟩
    · cases h
    · obtain ⟨h0, vw, vp, q, h1, h2, h3, h4, h5⟩ := hT
      have c4 : cel H b 4 = some (.map none) := by rw [h1.cel]; rfl
      refine ret_of Try.func62 rfl rfl rfl rfl ?_
      intro w0
      repeat (first | refine za ?_ | refine zb ?_ | refine zc ?_ | refine zg ?_ | refine zj ?_ | refine zr ?_ | refine zs ?_ | refine zt ?_ | refine zx ?_ | refine zy ?_ | refine zz ?_ | refine zza ?_ | refine zzb ?_ | refine zzc ?_ | refine zzd ?_ | refine zze ?_ | refine zzf ?_ | refine zzg ?_)
      refine x_load rfl rfl (hpmt (c4)) rfl trivial ?_
      refine x_range0 rfl rfl rfl trivial ?_
      intro H1 hi1 hk1 hs1
      refine ⟨trivial, ?_⟩
      repeat (first | refine za ?_ | refine zb ?_ | refine zc ?_ | refine zg ?_ | refine zj ?_ | refine zr ?_ | refine zs ?_ | refine zt ?_ | refine zx ?_ | refine zy ?_ | refine zz ?_ | refine zza ?_ | refine zzb ?_ | refine zzc ?_ | refine zzd ?_ | refine zze ?_ | refine zzf ?_ | refine zzg ?_)
      refine cw_loop (fun _ : Unit => [(3, .int .i64 1), (12, ptr H.size 0)]) (fun _ H' => H' = H1) (fun _ => 0) () (by repeat (first | exact True.intro | refine ⟨rfl, ?_⟩)) rfl ?_
      rintro _ _ rfl
      repeat (first | refine za ?_ | refine zb ?_ | refine zc ?_ | refine zg ?_ | refine zj ?_ | refine zr ?_ | refine zs ?_ | refine zt ?_ | refine zx ?_ | refine zy ?_ | refine zz ?_ | refine zza ?_ | refine zzb ?_ | refine zzc ?_ | refine zzd ?_ | refine zze ?_ | refine zzf ?_ | refine zzg ?_)
      refine x_next0 rfl rfl hi1 rfl trivial ?_
      refine ⟨trivial, ?_⟩
      repeat (first | refine za ?_ | refine zb ?_ | refine zc ?_ | refine zg ?_ | refine zj ?_ | refine zr ?_ | refine zs ?_ | refine zt ?_ | refine zx ?_ | refine zy ?_ | refine zz ?_ | refine zza ?_ | refine zzb ?_ | refine zzc ?_ | refine zzd ?_ | refine zze ?_ | refine zzf ?_ | refine zzg ?_)
      exact cw_ret1 rfl rfl ⟨hk1, rfl⟩
  | node own kids ih =>
    intro w v H hT hsz
    rcases hT with ⟨h, _⟩ | ⟨b, rfl, hT⟩
    · cases h
    · obtain ⟨h0, vw, m, f, h1, h2, h3, h4, h5⟩ := hT
      have c4 : cel H b 4 = some (.map (some m)) := by rw [h1.cel]; rfl
      have hsz' : 1 + sumB (fun b => (kids b).size) ≤ 1000000000000 := hsz
      refine ret_of Try.func62 rfl rfl rfl rfl ?_
      intro w0
      repeat (first | refine za ?_ | refine zb ?_ | refine zc ?_ | refine zg ?_ | refine zj ?_ | refine zr ?_ | refine zs ?_ | refine zt ?_ | refine zx ?_ | refine zy ?_ | refine zz ?_ | refine zza ?_ | refine zzb ?_ | refine zzc ?_ | refine zzd ?_ | refine zze ?_ | refine zzf ?_ | refine zzg ?_)
      refine x_load rfl rfl (hpmt (c4)) rfl trivial ?_
      refine x_range rfl rfl h4 rfl trivial ?_
      intro H1 hi1 hk1 hs1
      refine ⟨trivial, ?_⟩
      repeat (first | refine za ?_ | refine zb ?_ | refine zc ?_ | refine zg ?_ | refine zj ?_ | refine zr ?_ | refine zs ?_ | refine zt ?_ | refine zx ?_ | refine zy ?_ | refine zz ?_ | refine zza ?_ | refine zzb ?_ | refine zzc ?_ | refine zzd ?_ | refine zze ?_ | refine zzf ?_ | refine zzg ?_)
      refine cw_loop (fun s : (UInt8 → Bool) × Nat => [(3, .int .i64 s.2), (12, ptr H.size 0)]) (fun s H' => s.2 = 1 + sumB (fun b => if s.1 b then (kids b).size else 0) ∧ Keep Non H H' ∧ It H' H.size m f s.1) (fun s => leftB s.1) (fun _ => false, 1) (by repeat (first | exact True.intro | refine ⟨rfl, ?_⟩)) ⟨by simp [sumB_zero], hk1, hi1⟩ ?_
      rintro ⟨S, n⟩ H2 ⟨hn, hk2, hi2⟩
      dsimp only at hn hi2 ⊢
      have hle := part_le (S := S) (g := fun b => (kids b).size)
      repeat (first | refine za ?_ | refine zb ?_ | refine zc ?_ | refine zg ?_ | refine zj ?_ | refine zr ?_ | refine zs ?_ | refine zt ?_ | refine zx ?_ | refine zy ?_ | refine zz ?_ | refine zza ?_ | refine zzb ?_ | refine zzc ?_ | refine zzd ?_ | refine zze ?_ | refine zzf ?_ | refine zzg ?_)
      refine x_next rfl rfl hi2 rfl trivial (fun hall => ⟨trivial, ?_⟩) (fun c kk H3 hf hS hi3 hk3 hs3 => ⟨trivial, ?_⟩)
      · repeat (first | refine za ?_ | refine zb ?_ | refine zc ?_ | refine zg ?_ | refine zj ?_ | refine zr ?_ | refine zs ?_ | refine zt ?_ | refine zx ?_ | refine zy ?_ | refine zz ?_ | refine zza ?_ | refine zzb ?_ | refine zzc ?_ | refine zzd ?_ | refine zze ?_ | refine zzf ?_ | refine zzg ?_)
        have := sumB_part (S := S) (g := fun b => (kids b).size) (fun c hc => by
          rcases h5 c with ⟨_, e⟩ | ⟨x, e, _⟩
          · rw [e]; rfl
          · have := hall c x e; rw [hc] at this; cases this)
        exact cw_ret1 rfl rfl ⟨hk2, by rw [hn, this]; rfl⟩
      · repeat (first | refine za ?_ | refine zb ?_ | refine zc ?_ | refine zg ?_ | refine zj ?_ | refine zr ?_ | refine zs ?_ | refine zt ?_ | refine zx ?_ | refine zy ?_ | refine zz ?_ | refine zza ?_ | refine zzb ?_ | refine zzc ?_ | refine zzd ?_ | refine zze ?_ | refine zzf ?_ | refine zzg ?_)
        refine x_entry rfl rfl (hpmt hi3) rfl trivial ?_
        have hk03 : Keep Non H H3 := keep_at hk2 hk3 (Nat.le_refl _)
        obtain ⟨x, hx, ht⟩ : ∃ x, f c = some x ∧ Tr L H (kids c) (w ++ [c]) x := by
          rcases h5 c with ⟨e, _⟩ | h
          · rw [hf] at e; cases e
          · exact h
        rw [hf] at hx
        cases hx
        have hcle := le_sumB (fun b => (kids b).size) c
        have hturn := sumB_turn (S := S) (g := fun b => (kids b).size) hS
        have hle' := part_le (S := setF S c true) (g := fun b => (kids b).size)
        repeat (first | refine za ?_ | refine zb ?_ | refine zc ?_ | refine zg ?_ | refine zj ?_ | refine zr ?_ | refine zs ?_ | refine zt ?_ | refine zx ?_ | refine zy ?_ | refine zz ?_ | refine zza ?_ | refine zzb ?_ | refine zzc ?_ | refine zzd ?_ | refine zze ?_ | refine zzf ?_ | refine zzg ?_)
        refine x_call rfl rfl rfl trivial (ih c (.inr ⟨kk, rfl, ht.keepN hk03⟩) (by omega)) ?_
        rintro _ H4 ⟨hk4, rfl⟩
        refine ⟨trivial, ?_⟩
        repeat (first | refine za ?_ | refine zb ?_ | refine zc ?_ | refine zg ?_ | refine zj ?_ | refine zr ?_ | refine zs ?_ | refine zt ?_ | refine zx ?_ | refine zy ?_ | refine zz ?_ | refine zza ?_ | refine zzb ?_ | refine zzc ?_ | refine zzd ?_ | refine zze ?_ | refine zzf ?_ | refine zzg ?_)
        refine nw_round (setF S c true, n + (kids c).size) (by repeat (first | exact True.intro | refine ⟨rfl, ?_⟩)) ⟨by show n + _ = 1 + sumB _; rw [hturn, hn]; omega, hk03.non_trans hk4, hi3.it.keep hk4 (fun h => h) (fun h => h)⟩ (leftB_turn hS)
end Go.Proofs.Ytaloblomncjgkaa.X
