/- Chapter 15's statements: BurstTurns. -/
import Derived.Test.YtaloblomncjgkaaLBur2
import Derived.Test.YtaloblomncjgkaaKbn
import Derived.Test.YtaloblomncjgkaaCls2
namespace Go.Proofs.Ytaloblomncjgkaa.X
open Go Go.Proofs
set_option linter.unusedVariables false
set_option linter.unusedSimpArgs false
set_option maxRecDepth 10000
set_option maxHeartbeats 2000000

/-- the first cell of a trie that is -/
theorem cells_head {t : BT} {w : Bytes} (h : t ≠ .nil) : ∃ c, (t.cells w)[0]? = some c ∧ c.kind = (if t.isNode then 10 else 11) ∧ c.count = ((t.count : Nat) : Int) := by
  cases t with
  | nil => exact absurd rfl h
  | shelf ps => exact ⟨_, rfl, rfl, rfl⟩
  | node own kids => exact ⟨_, rfl, rfl, rfl⟩
/-- the i-th key -/
def tkey (s i : Nat) : Bytes := [UInt8.ofNat (i * s), UInt8.ofNat i]
theorem tkey_ne {s i j : Nat} (hi : i < 256) (hj : j < 256) (h : i ≠ j) : tkey s i ≠ tkey s j := fun e => by
  unfold tkey at e
  simp at e
  have := congrArg UInt8.toNat e.2
  simp at this
  omega
/-- i keys are put -/
structure TurnA (H0 : Heap) (H : Heap) (b s i : Nat) : Prop where
  mine : ∃ G t, Mine H0 G H b 500 t ∧ t.count = i ∧ t.size ≤ i * 11 ∧ t.isNode = decide (8 < i) ∧ ∀ j, j < 256 → there (t.pairs []) (tkey s j) = decide (j < i)

/-- a drop of a key -/
def dropT (t : BT) (k : Bytes) : BT := if there (t.pairs []) k = true then t.drop [] k else t
theorem mine_drop {H0 H : Heap} {G : Role} {b most : Nat} {t : BT} {vk : Value} {k : Bytes} (hM : Mine H0 G H b most t) (hc : t.count ≤ 5000) (hK : Bs H vk k) (hoff : k ≠ [] → G (sb vk) = 0) :
    Ret Try.prog 31 [ptr b 0, vk] H (fun r H' => r = .tuple #[.int .u64 ((getM (t.pairs []) k).getD 0), .bool (there (t.pairs []) k)] ∧ Keep (fun z => G z ≠ 0) H H' ∧ ∃ G', G.Ext G' H H' ∧ Mine H0 G' H' b most (dropT t k)) := by
  refine Ret.mono (tree_Drop hM.bu hc hK hoff) fun r H' h => ?_
  unfold dropT
  obtain ⟨e, h | h⟩ := h
  · rw [if_neg (by rw [h.1]; simp)]
    exact ⟨e, h.2.mono (fun _ _ h => h.elim), G, ⟨fun _ _ => rfl, h.2.size⟩, hM.keepN h.2⟩
  · rw [if_pos h.1]
    obtain ⟨h1, h2, G', hE, hB⟩ := h
    exact ⟨e, h2, G', hE, hM.turn h2 hE hB⟩

theorem walk_BurstTurns {many spread drop : Int} {H : Heap} : Ret Try.prog 5 [.int .i64 many, .int .i64 spread, .int .i64 drop] H (Yes H) := by
  obtain ⟨n, hn⟩ : ∃ n : Nat, low many 41 = n := ⟨(low many 41).toNat, by have := (low_bd many (m := 41) (by omega)).1; omega⟩
  obtain ⟨s0, hs0⟩ : ∃ s : Nat, low spread 200 = s := ⟨(low spread 200).toNat, by have := (low_bd spread (m := 200) (by omega)).1; omega⟩
  have hn1 := (low_bd many (m := 41) (by omega)).2
  have hs1 := (low_bd spread (m := 200) (by omega)).2
  rw [hn] at hn1
  rw [hs0] at hs1
  refine ret_of Try.func5 rfl rfl rfl rfl ?_
  intro w0
  repeat (first | refine za ?_ | refine zb ?_ | refine zc ?_ | refine zd ?_ | refine zg ?_ | refine zi ?_ | refine zj ?_ | refine zl ?_ | refine zm ?_ | refine zn ?_ | refine zo ?_ | refine zq ?_ | refine zr ?_ | refine zt ?_ | refine zu ?_ | refine zv ?_ | refine zw ?_ | refine zx ?_ | refine zy ?_ | refine zz ?_ | refine zza ?_ | refine zzb ?_ | refine zzc ?_ | refine zzd ?_ | refine zze ?_ | refine zzf ?_ | refine zzg ?_)
  refine x_call rfl rfl rfl trivial (law_LowF many 41 (by omega) H) ?_
  rintro _ _ ⟨rfl, rfl⟩
  refine ⟨trivial, ?_⟩
  rw [hn]
  repeat (first | refine za ?_ | refine zb ?_ | refine zc ?_ | refine zd ?_ | refine zg ?_ | refine zi ?_ | refine zj ?_ | refine zl ?_ | refine zm ?_ | refine zn ?_ | refine zo ?_ | refine zq ?_ | refine zr ?_ | refine zt ?_ | refine zu ?_ | refine zv ?_ | refine zw ?_ | refine zx ?_ | refine zy ?_ | refine zz ?_ | refine zza ?_ | refine zzb ?_ | refine zzc ?_ | refine zzd ?_ | refine zze ?_ | refine zzf ?_ | refine zzg ?_)
  refine x_call rfl rfl rfl trivial (law_LowF spread 200 (by omega) H) ?_
  rintro _ _ ⟨rfl, rfl⟩
  refine ⟨trivial, ?_⟩
  rw [hs0]
  repeat (first | refine za ?_ | refine zb ?_ | refine zc ?_ | refine zd ?_ | refine zg ?_ | refine zi ?_ | refine zj ?_ | refine zl ?_ | refine zm ?_ | refine zn ?_ | refine zo ?_ | refine zq ?_ | refine zr ?_ | refine zt ?_ | refine zu ?_ | refine zv ?_ | refine zw ?_ | refine zx ?_ | refine zy ?_ | refine zz ?_ | refine zza ?_ | refine zzb ?_ | refine zzc ?_ | refine zzd ?_ | refine zze ?_ | refine zzf ?_ | refine zzg ?_)
  refine x_call rfl rfl rfl trivial (tree_New 500) ?_
  rintro v1 H1 h1
  refine ⟨trivial, ?_⟩
  rcases h1 with ⟨h1, _⟩ | ⟨_, _, hk1, b, G1, rfl, hF1, hB1⟩
  · omega
  have hM1 : Mine H G1 H1 b 500 .nil := ⟨hB1, hF1, hk1⟩
  obtain ⟨s, hs⟩ : ∃ s, s = 1 + s0 := ⟨_, rfl⟩
  have hsi : (1 : Int) + (s0 : Int) = (s : Int) := by omega
  rw [hsi]
  repeat (first | refine za ?_ | refine zb ?_ | refine zc ?_ | refine zd ?_ | refine zg ?_ | refine zi ?_ | refine zj ?_ | refine zl ?_ | refine zm ?_ | refine zn ?_ | refine zo ?_ | refine zq ?_ | refine zr ?_ | refine zt ?_ | refine zu ?_ | refine zv ?_ | refine zw ?_ | refine zx ?_ | refine zy ?_ | refine zz ?_ | refine zza ?_ | refine zzb ?_ | refine zzc ?_ | refine zzd ?_ | refine zze ?_ | refine zzf ?_ | refine zzg ?_)
  refine cw_loop (fun i : Nat => [(0, .int .i64 n), (1, .int .i64 s), (2, .int .i64 drop), (7, ptr b 0), (8, .int .i64 i)]) (fun i H' => i ≤ n ∧ TurnA H H' b s i) (fun i => n - i) 0 (by repeat (first | exact True.intro | refine ⟨rfl, ?_⟩)) ⟨Nat.zero_le _, ⟨G1, .nil, hM1, rfl, Nat.zero_le _, rfl, fun j _ => by simp [BT.pairs, there]⟩⟩ ?_
  rintro i H2 ⟨hi, ⟨G, t, hM, hcn, hsz, hnd, hth⟩⟩
  have hmul : (i : Int) * (s : Int) = ((i * s : Nat) : Int) := by simp
  have hmul2 : i * s ≤ 40 * 200 := Nat.mul_le_mul (by omega) (by omega)
  repeat (first | refine za ?_ | refine zb ?_ | refine zc ?_ | refine zd ?_ | refine zg ?_ | refine zi ?_ | refine zj ?_ | refine zl ?_ | refine zm ?_ | refine zn ?_ | refine zo ?_ | refine zq ?_ | refine zr ?_ | refine zt ?_ | refine zu ?_ | refine zv ?_ | refine zw ?_ | refine zx ?_ | refine zy ?_ | refine zz ?_ | refine zza ?_ | refine zzb ?_ | refine zzc ?_ | refine zzd ?_ | refine zze ?_ | refine zzf ?_ | refine zzg ?_)
  refine cw_cond rfl (fun h2 => ?_) (fun h2 => ?_) <;> (try simp at h2)
  · repeat (first | refine za ?_ | refine zb ?_ | refine zc ?_ | refine zd ?_ | refine zg ?_ | refine zi ?_ | refine zj ?_ | refine zl ?_ | refine zm ?_ | refine zn ?_ | refine zo ?_ | refine zq ?_ | refine zr ?_ | refine zt ?_ | refine zu ?_ | refine zv ?_ | refine zw ?_ | refine zx ?_ | refine zy ?_ | refine zz ?_ | refine zza ?_ | refine zzb ?_ | refine zzc ?_ | refine zzd ?_ | refine zze ?_ | refine zzf ?_ | refine zzg ?_)
    refine x_conv_int rfl rfl rfl trivial ?_
    repeat (first | refine za ?_ | refine zb ?_ | refine zc ?_ | refine zd ?_ | refine zg ?_ | refine zi ?_ | refine zj ?_ | refine zl ?_ | refine zm ?_ | refine zn ?_ | refine zo ?_ | refine zq ?_ | refine zr ?_ | refine zt ?_ | refine zu ?_ | refine zv ?_ | refine zw ?_ | refine zx ?_ | refine zy ?_ | refine zz ?_ | refine zza ?_ | refine zzb ?_ | refine zzc ?_ | refine zzd ?_ | refine zze ?_ | refine zzf ?_ | refine zzg ?_)
    refine x_conv_int rfl rfl rfl trivial ?_
    have e1 : IntKind.u8.wrap ((i : Int) * (s : Int)) = ((UInt8.ofNat (i * s)).toNat : Int) := by rw [hmul, wrap_u8_mod]; simp
    have e2 : IntKind.u8.wrap (i : Int) = ((UInt8.ofNat i).toNat : Int) := by rw [wrap_u8_mod]; simp
    rw [e1, e2]
    refine x_buildSlice rfl rfl rfl rfl (by omega) (by simp [oneC, Value.oneCell']) rfl trivial ?_
    intro H3 hn3
    refine ⟨trivial, ?_⟩
    have hK3 : Bs H3 (.slice (some ⟨H2.size, 0, none⟩) 2 2) (tkey s i) := Own.bs (l := tkey s i) (Own.new hn3 rfl (by omega))
    have hM3 := hM.keepN hn3.keep
    repeat (first | refine za ?_ | refine zb ?_ | refine zc ?_ | refine zd ?_ | refine zg ?_ | refine zi ?_ | refine zj ?_ | refine zl ?_ | refine zm ?_ | refine zn ?_ | refine zo ?_ | refine zq ?_ | refine zr ?_ | refine zt ?_ | refine zu ?_ | refine zv ?_ | refine zw ?_ | refine zx ?_ | refine zy ?_ | refine zz ?_ | refine zza ?_ | refine zzb ?_ | refine zzc ?_ | refine zzd ?_ | refine zze ?_ | refine zzf ?_ | refine zzg ?_)
    refine x_conv_int rfl rfl rfl trivial ?_
    rw [wrap_u64 (by omega) (by omega)]
    repeat (first | refine za ?_ | refine zb ?_ | refine zc ?_ | refine zd ?_ | refine zg ?_ | refine zi ?_ | refine zj ?_ | refine zl ?_ | refine zm ?_ | refine zn ?_ | refine zo ?_ | refine zq ?_ | refine zr ?_ | refine zt ?_ | refine zu ?_ | refine zv ?_ | refine zw ?_ | refine zx ?_ | refine zy ?_ | refine zz ?_ | refine zza ?_ | refine zzb ?_ | refine zzc ?_ | refine zzd ?_ | refine zze ?_ | refine zzf ?_ | refine zzg ?_)
    refine x_call rfl rfl rfl trivial (mine_put (i : Int) hM3 (by omega) hK3 (fun _ => hM.bu.gin.off (Nat.le_refl _)) (show (2 : Nat) ≤ 65535 by omega) (by show t.size + 2 + 9 ≤ 500; omega)) ?_
    have hthi : there (t.pairs []) (tkey s i) = false := by rw [hth i (by omega)]; simp
    rw [hthi, getM_there.1 hthi]
    rintro _ H4 ⟨rfl, hk4, G', hE4, hM4⟩
    refine ⟨trivial, ?_⟩
    have hW := hM.bu.wf
    have hcn4 := BT.put_cnt (p := (tkey s i, (i : Int))) hW.wf0 (begins_nil' _) (show (2 : Nat) ≤ 65535 by omega)
    rw [hthi] at hcn4
    simp only [Bool.false_eq_true, if_false] at hcn4
    have hsz4 := (BT.put_size t (w := []) (p := (tkey s i, (i : Int))) hW (begins_nil' _) (show (2 : Nat) ≤ 65535 by omega)).1
    have hnd4 := BT.put_isNode (p := (tkey s i, (i : Int))) hW (begins_nil' _) (show (2 : Nat) ≤ 65535 by omega)
    have hlk : (tkey s i).length = 2 := rfl
    simp only [List.length_nil, hlk] at hsz4
    have hth4 : ∀ j, j < 256 → there ((t.put [] (tkey s i, (i : Int))).pairs []) (tkey s j) = decide (j < i + 1) := fun j hj => by
      rw [BT.put_pairs (p := (tkey s i, (i : Int))) hW.wf0 (begins_nil' _) (show (2 : Nat) ≤ 65535 by omega), there_putM (BT.pairs_rise hW.wf0), hth j hj]
      by_cases e : j = i
      · subst e; simp
      · have := tkey_ne (s := s) hj (show i < 256 by omega) e
        simp [this]
        omega
    generalize t.put [] (tkey s i, (i : Int)) = t4 at hM4 hcn4 hsz4 hnd4 hth4
    rw [hnd, hcn4, hcn] at hnd4
    rw [hcn] at hcn4
    repeat (first | refine za ?_ | refine zb ?_ | refine zc ?_ | refine zd ?_ | refine zg ?_ | refine zi ?_ | refine zj ?_ | refine zl ?_ | refine zm ?_ | refine zn ?_ | refine zo ?_ | refine zq ?_ | refine zr ?_ | refine zt ?_ | refine zu ?_ | refine zv ?_ | refine zw ?_ | refine zx ?_ | refine zy ?_ | refine zz ?_ | refine zza ?_ | refine zzb ?_ | refine zzc ?_ | refine zzd ?_ | refine zze ?_ | refine zzf ?_ | refine zzg ?_)
    refine x_call rfl rfl rfl trivial (tree_Shape hM4.bu (by omega) (by omega)) ?_
    rintro vc H5 ⟨hk5, W, hC⟩
    refine ⟨trivial, ?_⟩
    have sC := hC.row.sl
    have hne : t4 ≠ .nil := fun e => by rw [e] at hcn4; simp [BT.count] at hcn4
    obtain ⟨c, hc0, hck, hcc⟩ := cells_head (w := []) hne
    obtain ⟨x, hx, hcel⟩ := hC.row.rd.cel encC_len hc0
    have hxc := hx.1
    have hcl0 := (List.getElem?_eq_some_iff.1 hc0).1
    have d0 : cel H5 (sb vc) (so vc + 0 * 9 + 0) = some (.int .i64 (if t4.isNode then 10 else 11)) := by rw [hcel 0 (by omega), ← hck, ← hxc]; rfl
    have d2 : cel H5 (sb vc) (so vc + 0 * 9 + 2) = some (.int .i64 ((i + 1 : Nat) : Int)) := by rw [hcel 2 (by omega), ← hcn4, ← hcc, ← hxc]; rfl
    repeat (first | refine za ?_ | refine zb ?_ | refine zc ?_ | refine zd ?_ | refine zg ?_ | refine zi ?_ | refine zj ?_ | refine zl ?_ | refine zm ?_ | refine zn ?_ | refine zo ?_ | refine zq ?_ | refine zr ?_ | refine zt ?_ | refine zu ?_ | refine zv ?_ | refine zw ?_ | refine zx ?_ | refine zy ?_ | refine zz ?_ | refine zza ?_ | refine zzb ?_ | refine zzc ?_ | refine zzd ?_ | refine zze ?_ | refine zzf ?_ | refine zzg ?_)
    refine x_false 56 rfl (by have h9 : ((t4.cells []).length : Int) ≠ 0 := (by omega); simpa using h9) ?_
    repeat (first | refine za ?_ | refine zb ?_ | refine zc ?_ | refine zd ?_ | refine zg ?_ | refine zi ?_ | refine zj ?_ | refine zl ?_ | refine zm ?_ | refine zn ?_ | refine zo ?_ | refine zq ?_ | refine zr ?_ | refine zt ?_ | refine zu ?_ | refine zv ?_ | refine zw ?_ | refine zx ?_ | refine zy ?_ | refine zz ?_ | refine zza ?_ | refine zzb ?_ | refine zzc ?_ | refine zzd ?_ | refine zze ?_ | refine zzf ?_ | refine zzg ?_)
    refine x_load rfl rfl (hpmt (d0)) rfl trivial ?_
    repeat (first | refine za ?_ | refine zb ?_ | refine zc ?_ | refine zd ?_ | refine zg ?_ | refine zi ?_ | refine zj ?_ | refine zl ?_ | refine zm ?_ | refine zn ?_ | refine zo ?_ | refine zq ?_ | refine zr ?_ | refine zt ?_ | refine zu ?_ | refine zv ?_ | refine zw ?_ | refine zx ?_ | refine zy ?_ | refine zz ?_ | refine zza ?_ | refine zzb ?_ | refine zzc ?_ | refine zzd ?_ | refine zze ?_ | refine zzf ?_ | refine zzg ?_)
    have hnd5 : t4.isNode = decide (8 ≤ i) := by
      rw [hnd4]
      by_cases h8 : 8 ≤ i
      · rw [decide_eq_true h8, decide_eq_true (show 8 < i + 1 by omega)]; simp
      · rw [decide_eq_false h8, decide_eq_false (show ¬ 8 < i by omega), decide_eq_false (show ¬ 8 < i + 1 by omega)]; rfl
    have hkd : (((if t4.isNode = true then 10 else 11 : Int) == 10) == decide ((i : Int) ≥ 8)) = true := by
      rw [hnd5]
      by_cases h8 : 8 ≤ i
      · rw [decide_eq_true h8, decide_eq_true (show (i : Int) ≥ 8 by omega)]; rfl
      · rw [decide_eq_false h8, decide_eq_false (show ¬ (i : Int) ≥ 8 by omega)]; rfl
    refine x_false 66 rfl (by rw [hkd]; rfl) ?_
    repeat (first | refine za ?_ | refine zb ?_ | refine zc ?_ | refine zd ?_ | refine zg ?_ | refine zi ?_ | refine zj ?_ | refine zl ?_ | refine zm ?_ | refine zn ?_ | refine zo ?_ | refine zq ?_ | refine zr ?_ | refine zt ?_ | refine zu ?_ | refine zv ?_ | refine zw ?_ | refine zx ?_ | refine zy ?_ | refine zz ?_ | refine zza ?_ | refine zzb ?_ | refine zzc ?_ | refine zzd ?_ | refine zze ?_ | refine zzf ?_ | refine zzg ?_)
    refine x_load rfl rfl (hpmt (d2)) rfl trivial ?_
    repeat (first | refine za ?_ | refine zb ?_ | refine zc ?_ | refine zd ?_ | refine zg ?_ | refine zi ?_ | refine zj ?_ | refine zl ?_ | refine zm ?_ | refine zn ?_ | refine zo ?_ | refine zq ?_ | refine zr ?_ | refine zt ?_ | refine zu ?_ | refine zv ?_ | refine zw ?_ | refine zx ?_ | refine zy ?_ | refine zz ?_ | refine zza ?_ | refine zzb ?_ | refine zzc ?_ | refine zzd ?_ | refine zze ?_ | refine zzf ?_ | refine zzg ?_)
    refine cw_say 74 (.bool false) rfl (by simp) ?_
    repeat (first | refine za ?_ | refine zb ?_ | refine zc ?_ | refine zd ?_ | refine zg ?_ | refine zi ?_ | refine zj ?_ | refine zl ?_ | refine zm ?_ | refine zn ?_ | refine zo ?_ | refine zq ?_ | refine zr ?_ | refine zt ?_ | refine zu ?_ | refine zv ?_ | refine zw ?_ | refine zx ?_ | refine zy ?_ | refine zz ?_ | refine zza ?_ | refine zzb ?_ | refine zzc ?_ | refine zzd ?_ | refine zze ?_ | refine zzf ?_ | refine zzg ?_)
    refine nw_round (i + 1) (by repeat (first | exact True.intro | refine ⟨rfl, ?_⟩)) ⟨by omega, ⟨G', t4, hM4.keepN hk5, hcn4, by omega, ?_, hth4⟩⟩ (by omega)
    · rw [hnd5]
      by_cases h8 : 8 ≤ i
      · rw [decide_eq_true h8, decide_eq_true (show 8 < i + 1 by omega)]
      · rw [decide_eq_false h8, decide_eq_false (show ¬ 8 < i + 1 by omega)]
  · have hie : i = n := by omega
    subst hie
    have e8 : decide ((i : Int) > 8) = t.isNode := by rw [hnd]; by_cases h8 : 8 < i <;> simp [h8] <;> omega
    repeat (first | refine za ?_ | refine zb ?_ | refine zc ?_ | refine zd ?_ | refine zg ?_ | refine zi ?_ | refine zj ?_ | refine zl ?_ | refine zm ?_ | refine zn ?_ | refine zo ?_ | refine zq ?_ | refine zr ?_ | refine zt ?_ | refine zu ?_ | refine zv ?_ | refine zw ?_ | refine zx ?_ | refine zy ?_ | refine zz ?_ | refine zza ?_ | refine zzb ?_ | refine zzc ?_ | refine zzd ?_ | refine zze ?_ | refine zzf ?_ | refine zzg ?_)
    rw [e8]
    repeat (first | refine za ?_ | refine zb ?_ | refine zc ?_ | refine zd ?_ | refine zg ?_ | refine zi ?_ | refine zj ?_ | refine zl ?_ | refine zm ?_ | refine zn ?_ | refine zo ?_ | refine zq ?_ | refine zr ?_ | refine zt ?_ | refine zu ?_ | refine zv ?_ | refine zw ?_ | refine zx ?_ | refine zy ?_ | refine zz ?_ | refine zza ?_ | refine zzb ?_ | refine zzc ?_ | refine zzd ?_ | refine zze ?_ | refine zzf ?_ | refine zzg ?_)
    refine cw_loop (fun s0 : Nat × Bool => [(0, .int .i64 i), (1, .int .i64 s), (2, .int .i64 drop), (7, ptr b 0), (13, .bool s0.2), (14, .int .i64 s0.1)]) (fun s0 H' => s0.1 ≤ i ∧ ∃ G t, Mine H G H' b 500 t ∧ t.count = i - s0.1 ∧ t.isNode = s0.2 ∧ ∀ j, j < 256 → there (t.pairs []) (tkey s j) = decide (s0.1 ≤ j ∧ j < i)) (fun s0 => i - s0.1) (0, _) (by repeat (first | exact True.intro | refine ⟨rfl, ?_⟩)) ⟨Nat.zero_le _, G, t, hM, by omega, rfl, fun j hj => by rw [hth j hj]; simp⟩ ?_
    rintro ⟨d, nd⟩ H5 ⟨hd, G, t, hM, hcn, hnd, hth⟩
    simp only at hd hcn hnd hth ⊢
    have hmul : (d : Int) * (s : Int) = ((d * s : Nat) : Int) := by simp
    have hmul2 : d * s ≤ 40 * 200 := Nat.mul_le_mul (by omega) (by omega)
    repeat (first | refine za ?_ | refine zb ?_ | refine zc ?_ | refine zd ?_ | refine zg ?_ | refine zi ?_ | refine zj ?_ | refine zl ?_ | refine zm ?_ | refine zn ?_ | refine zo ?_ | refine zq ?_ | refine zr ?_ | refine zt ?_ | refine zu ?_ | refine zv ?_ | refine zw ?_ | refine zx ?_ | refine zy ?_ | refine zz ?_ | refine zza ?_ | refine zzb ?_ | refine zzc ?_ | refine zzd ?_ | refine zze ?_ | refine zzf ?_ | refine zzg ?_)
    refine x_split 80 rfl (fun h3 => ?_) (fun h3 => ?_) <;> (try simp at h3)
    · repeat (first | refine za ?_ | refine zb ?_ | refine zc ?_ | refine zd ?_ | refine zg ?_ | refine zi ?_ | refine zj ?_ | refine zl ?_ | refine zm ?_ | refine zn ?_ | refine zo ?_ | refine zq ?_ | refine zr ?_ | refine zt ?_ | refine zu ?_ | refine zv ?_ | refine zw ?_ | refine zx ?_ | refine zy ?_ | refine zz ?_ | refine zza ?_ | refine zzb ?_ | refine zzc ?_ | refine zzd ?_ | refine zze ?_ | refine zzf ?_ | refine zzg ?_)
      refine x_call rfl rfl rfl trivial (law_LowF drop 41 (by omega) H5) ?_
      rintro _ _ ⟨rfl, rfl⟩
      refine ⟨trivial, ?_⟩
      repeat (first | refine za ?_ | refine zb ?_ | refine zc ?_ | refine zd ?_ | refine zg ?_ | refine zi ?_ | refine zj ?_ | refine zl ?_ | refine zm ?_ | refine zn ?_ | refine zo ?_ | refine zq ?_ | refine zr ?_ | refine zt ?_ | refine zu ?_ | refine zv ?_ | refine zw ?_ | refine zx ?_ | refine zy ?_ | refine zz ?_ | refine zza ?_ | refine zzb ?_ | refine zzc ?_ | refine zzd ?_ | refine zze ?_ | refine zzf ?_ | refine zzg ?_)
      refine cw_cond rfl (fun h4 => ?_) (fun h4 => ?_) <;> (try simp at h4)
      · repeat (first | refine za ?_ | refine zb ?_ | refine zc ?_ | refine zd ?_ | refine zg ?_ | refine zi ?_ | refine zj ?_ | refine zl ?_ | refine zm ?_ | refine zn ?_ | refine zo ?_ | refine zq ?_ | refine zr ?_ | refine zt ?_ | refine zu ?_ | refine zv ?_ | refine zw ?_ | refine zx ?_ | refine zy ?_ | refine zz ?_ | refine zza ?_ | refine zzb ?_ | refine zzc ?_ | refine zzd ?_ | refine zze ?_ | refine zzf ?_ | refine zzg ?_)
        refine x_conv_int rfl rfl rfl trivial ?_
        repeat (first | refine za ?_ | refine zb ?_ | refine zc ?_ | refine zd ?_ | refine zg ?_ | refine zi ?_ | refine zj ?_ | refine zl ?_ | refine zm ?_ | refine zn ?_ | refine zo ?_ | refine zq ?_ | refine zr ?_ | refine zt ?_ | refine zu ?_ | refine zv ?_ | refine zw ?_ | refine zx ?_ | refine zy ?_ | refine zz ?_ | refine zza ?_ | refine zzb ?_ | refine zzc ?_ | refine zzd ?_ | refine zze ?_ | refine zzf ?_ | refine zzg ?_)
        refine x_conv_int rfl rfl rfl trivial ?_
        have e1 : IntKind.u8.wrap ((d : Int) * (s : Int)) = ((UInt8.ofNat (d * s)).toNat : Int) := by rw [hmul, wrap_u8_mod]; simp
        have e2 : IntKind.u8.wrap (d : Int) = ((UInt8.ofNat d).toNat : Int) := by rw [wrap_u8_mod]; simp
        rw [e1, e2]
        refine x_buildSlice rfl rfl rfl rfl (by omega) (by simp [oneC, Value.oneCell']) rfl trivial ?_
        intro H6 hn6
        refine ⟨trivial, ?_⟩
        have hK6 : Bs H6 (.slice (some ⟨H5.size, 0, none⟩) 2 2) (tkey s d) := Own.bs (l := tkey s d) (Own.new hn6 rfl (by omega))
        have hM6 := hM.keepN hn6.keep
        repeat (first | refine za ?_ | refine zb ?_ | refine zc ?_ | refine zd ?_ | refine zg ?_ | refine zi ?_ | refine zj ?_ | refine zl ?_ | refine zm ?_ | refine zn ?_ | refine zo ?_ | refine zq ?_ | refine zr ?_ | refine zt ?_ | refine zu ?_ | refine zv ?_ | refine zw ?_ | refine zx ?_ | refine zy ?_ | refine zz ?_ | refine zza ?_ | refine zzb ?_ | refine zzc ?_ | refine zzd ?_ | refine zze ?_ | refine zzf ?_ | refine zzg ?_)
        refine x_call rfl rfl rfl trivial (mine_drop hM6 (by omega) hK6 (fun _ => hM.bu.gin.off (Nat.le_refl _))) ?_
        have hthd : there (t.pairs []) (tkey s d) = true := by rw [hth d (by omega)]; simp; omega
        rw [hthd]
        rintro _ H7 ⟨rfl, hk7, G', hE7, hM7⟩
        refine ⟨trivial, ?_⟩
        have hW := hM.bu.wf
        unfold dropT at hM7
        rw [if_pos hthd] at hM7
        have hcn7 := BT.drop_cnt (k := tkey s d) hW.wf0 (begins_nil' _) hthd
        have hnd7 := BT.drop_isNode (t := t) (w := []) (k := tkey s d)
        have hth7 : ∀ j, j < 256 → there ((t.drop [] (tkey s d)).pairs []) (tkey s j) = decide (d + 1 ≤ j ∧ j < i) := fun j hj => by
          rw [BT.drop_pairs hW.wf0 (begins_nil' _), there_dropM (BT.pairs_rise hW.wf0), hth j hj]
          by_cases e : j = d
          · subst e; simp; omega
          · have := tkey_ne (s := s) hj (show d < 256 by omega) e
            rw [decide_eq_false this, Bool.not_false, Bool.true_and]
            exact decide_eq_decide.2 (by omega)
        generalize t.drop [] (tkey s d) = t7 at hM7 hcn7 hnd7 hth7
        obtain ⟨l, hl⟩ : ∃ l, l = i - 1 - d := ⟨_, rfl⟩
        have hli : (i : Int) - 1 - (d : Int) = (l : Int) := by omega
        have hcl : t7.count = l := by omega
        rw [hnd, hcl] at hnd7
        repeat (first | refine za ?_ | refine zb ?_ | refine zc ?_ | refine zd ?_ | refine zg ?_ | refine zi ?_ | refine zj ?_ | refine zl ?_ | refine zm ?_ | refine zn ?_ | refine zo ?_ | refine zq ?_ | refine zr ?_ | refine zt ?_ | refine zu ?_ | refine zv ?_ | refine zw ?_ | refine zx ?_ | refine zy ?_ | refine zz ?_ | refine zza ?_ | refine zzb ?_ | refine zzc ?_ | refine zzd ?_ | refine zze ?_ | refine zzf ?_ | refine zzg ?_)
        rw [hli]
        repeat (first | refine za ?_ | refine zb ?_ | refine zc ?_ | refine zd ?_ | refine zg ?_ | refine zi ?_ | refine zj ?_ | refine zl ?_ | refine zm ?_ | refine zn ?_ | refine zo ?_ | refine zq ?_ | refine zr ?_ | refine zt ?_ | refine zu ?_ | refine zv ?_ | refine zw ?_ | refine zx ?_ | refine zy ?_ | refine zz ?_ | refine zza ?_ | refine zzb ?_ | refine zzc ?_ | refine zzd ?_ | refine zze ?_ | refine zzf ?_ | refine zzg ?_)
        refine cw_cut (fun nd' : Bool => [(0, .int .i64 i), (1, .int .i64 s), (2, .int .i64 drop), (7, ptr b 0), (13, .bool nd'), (14, .int .i64 d), (16, .bool true), (17, .int .i64 l)]) (fun nd' H' => H' = H7 ∧ nd' = t7.isNode) ?_ ?_
        · refine cw_cond rfl (fun h5 => ?_) (fun h5 => ?_) <;> (try simp at h5)
          · repeat (first | refine za ?_ | refine zb ?_ | refine zc ?_ | refine zd ?_ | refine zg ?_ | refine zi ?_ | refine zj ?_ | refine zl ?_ | refine zm ?_ | refine zn ?_ | refine zo ?_ | refine zq ?_ | refine zr ?_ | refine zt ?_ | refine zu ?_ | refine zv ?_ | refine zw ?_ | refine zx ?_ | refine zy ?_ | refine zz ?_ | refine zza ?_ | refine zzb ?_ | refine zzc ?_ | refine zzd ?_ | refine zze ?_ | refine zzf ?_ | refine zzg ?_)
            exact nw_meet _ (by repeat (first | exact True.intro | refine ⟨rfl, ?_⟩)) ⟨rfl, by rw [hnd7, decide_eq_false (by omega)]; simp⟩
          · repeat (first | refine za ?_ | refine zb ?_ | refine zc ?_ | refine zd ?_ | refine zg ?_ | refine zi ?_ | refine zj ?_ | refine zl ?_ | refine zm ?_ | refine zn ?_ | refine zo ?_ | refine zq ?_ | refine zr ?_ | refine zt ?_ | refine zu ?_ | refine zv ?_ | refine zw ?_ | refine zx ?_ | refine zy ?_ | refine zz ?_ | refine zza ?_ | refine zzb ?_ | refine zzc ?_ | refine zzd ?_ | refine zze ?_ | refine zzf ?_ | refine zzg ?_)
            exact nw_meet _ (by repeat (first | exact True.intro | refine ⟨rfl, ?_⟩)) ⟨rfl, by rw [hnd7, decide_eq_true (by omega)]; simp⟩
        rintro nd' _ ⟨rfl, hnd'⟩
        repeat (first | refine za ?_ | refine zb ?_ | refine zc ?_ | refine zd ?_ | refine zg ?_ | refine zi ?_ | refine zj ?_ | refine zl ?_ | refine zm ?_ | refine zn ?_ | refine zo ?_ | refine zq ?_ | refine zr ?_ | refine zt ?_ | refine zu ?_ | refine zv ?_ | refine zw ?_ | refine zx ?_ | refine zy ?_ | refine zz ?_ | refine zza ?_ | refine zzb ?_ | refine zzc ?_ | refine zzd ?_ | refine zze ?_ | refine zzf ?_ | refine zzg ?_)
        refine x_call rfl rfl rfl trivial (tree_Shape hM7.bu (by omega) (by omega)) ?_
        rintro vc H8 ⟨hk8, W, hC⟩
        refine ⟨trivial, ?_⟩
        have hM8 := hM7.keepN hk8
        have sC := hC.row.sl
        repeat (first | refine za ?_ | refine zb ?_ | refine zc ?_ | refine zd ?_ | refine zg ?_ | refine zi ?_ | refine zj ?_ | refine zl ?_ | refine zm ?_ | refine zn ?_ | refine zo ?_ | refine zq ?_ | refine zr ?_ | refine zt ?_ | refine zu ?_ | refine zv ?_ | refine zw ?_ | refine zx ?_ | refine zy ?_ | refine zz ?_ | refine zza ?_ | refine zzb ?_ | refine zzc ?_ | refine zzd ?_ | refine zze ?_ | refine zzf ?_ | refine zzg ?_)
        have hcl8 := BT.cells_len t7 []
        have hd1 : d + 1 ≤ i := by omega
        rcases Nat.eq_zero_or_pos l with hl0 | hl0
        · have hz7 := BT.nil_of_count hM7.bu.wf (by omega)
          subst hz7
          subst hl0
          have sC0 : IsSl vc 0 := sC
          have hn0 : i = d + 1 := by omega
          repeat (first | refine za ?_ | refine zb ?_ | refine zc ?_ | refine zd ?_ | refine zg ?_ | refine zi ?_ | refine zj ?_ | refine zl ?_ | refine zm ?_ | refine zn ?_ | refine zo ?_ | refine zq ?_ | refine zr ?_ | refine zt ?_ | refine zu ?_ | refine zv ?_ | refine zw ?_ | refine zx ?_ | refine zy ?_ | refine zz ?_ | refine zza ?_ | refine zzb ?_ | refine zzc ?_ | refine zzd ?_ | refine zze ?_ | refine zzf ?_ | refine zzg ?_)
          exact nw_round (d + 1, nd') (by repeat (first | exact True.intro | refine ⟨rfl, ?_⟩)) ⟨hd1, G', .nil, hM8, by show 0 = i - (d + 1); omega, hnd'.symm, hth7⟩ (by show i - (d + 1) < i - d; omega)
        · have hne : t7 ≠ .nil := fun e => by rw [e] at hcl; simp [BT.count] at hcl; omega
          obtain ⟨c, hc0, hck, hcc⟩ := cells_head (w := []) hne
          obtain ⟨x, hx, hcel⟩ := hC.row.rd.cel encC_len hc0
          have hxc := hx.1
          have hcl0 := (List.getElem?_eq_some_iff.1 hc0).1
          have d0 : cel H8 (sb vc) (so vc + 0 * 9 + 0) = some (.int .i64 (if t7.isNode then 10 else 11)) := by rw [hcel 0 (by omega), ← hck, ← hxc]; rfl
          have d2 : cel H8 (sb vc) (so vc + 0 * 9 + 2) = some (.int .i64 (l : Nat)) := by rw [hcel 2 (by omega), ← hcl, ← hcc, ← hxc]; rfl
          repeat (first | refine za ?_ | refine zb ?_ | refine zc ?_ | refine zd ?_ | refine zg ?_ | refine zi ?_ | refine zj ?_ | refine zl ?_ | refine zm ?_ | refine zn ?_ | refine zo ?_ | refine zq ?_ | refine zr ?_ | refine zt ?_ | refine zu ?_ | refine zv ?_ | refine zw ?_ | refine zx ?_ | refine zy ?_ | refine zz ?_ | refine zza ?_ | refine zzb ?_ | refine zzc ?_ | refine zzd ?_ | refine zze ?_ | refine zzf ?_ | refine zzg ?_)
          refine x_false 113 rfl (by simp; omega) ?_
          repeat (first | refine za ?_ | refine zb ?_ | refine zc ?_ | refine zd ?_ | refine zg ?_ | refine zi ?_ | refine zj ?_ | refine zl ?_ | refine zm ?_ | refine zn ?_ | refine zo ?_ | refine zq ?_ | refine zr ?_ | refine zt ?_ | refine zu ?_ | refine zv ?_ | refine zw ?_ | refine zx ?_ | refine zy ?_ | refine zz ?_ | refine zza ?_ | refine zzb ?_ | refine zzc ?_ | refine zzd ?_ | refine zze ?_ | refine zzf ?_ | refine zzg ?_)
          refine x_true 122 rfl (by simp; omega) ?_
          repeat (first | refine za ?_ | refine zb ?_ | refine zc ?_ | refine zd ?_ | refine zg ?_ | refine zi ?_ | refine zj ?_ | refine zl ?_ | refine zm ?_ | refine zn ?_ | refine zo ?_ | refine zq ?_ | refine zr ?_ | refine zt ?_ | refine zu ?_ | refine zv ?_ | refine zw ?_ | refine zx ?_ | refine zy ?_ | refine zz ?_ | refine zza ?_ | refine zzb ?_ | refine zzc ?_ | refine zzd ?_ | refine zze ?_ | refine zzf ?_ | refine zzg ?_)
          refine x_false 126 rfl (by have h9 : ((t7.cells []).length : Int) ≠ 0 := (by omega); simpa using h9) ?_
          repeat (first | refine za ?_ | refine zb ?_ | refine zc ?_ | refine zd ?_ | refine zg ?_ | refine zi ?_ | refine zj ?_ | refine zl ?_ | refine zm ?_ | refine zn ?_ | refine zo ?_ | refine zq ?_ | refine zr ?_ | refine zt ?_ | refine zu ?_ | refine zv ?_ | refine zw ?_ | refine zx ?_ | refine zy ?_ | refine zz ?_ | refine zza ?_ | refine zzb ?_ | refine zzc ?_ | refine zzd ?_ | refine zze ?_ | refine zzf ?_ | refine zzg ?_)
          refine x_load rfl rfl (hpmt (d0)) rfl trivial ?_
          repeat (first | refine za ?_ | refine zb ?_ | refine zc ?_ | refine zd ?_ | refine zg ?_ | refine zi ?_ | refine zj ?_ | refine zl ?_ | refine zm ?_ | refine zn ?_ | refine zo ?_ | refine zq ?_ | refine zr ?_ | refine zt ?_ | refine zu ?_ | refine zv ?_ | refine zw ?_ | refine zx ?_ | refine zy ?_ | refine zz ?_ | refine zza ?_ | refine zzb ?_ | refine zzc ?_ | refine zzd ?_ | refine zze ?_ | refine zzf ?_ | refine zzg ?_)
          rw [hnd']
          have hkd : (((if t7.isNode = true then 10 else 11 : Int) == 10) == t7.isNode) = true := by cases t7.isNode <;> rfl
          refine x_false 135 rfl (by rw [hkd]; rfl) ?_
          repeat (first | refine za ?_ | refine zb ?_ | refine zc ?_ | refine zd ?_ | refine zg ?_ | refine zi ?_ | refine zj ?_ | refine zl ?_ | refine zm ?_ | refine zn ?_ | refine zo ?_ | refine zq ?_ | refine zr ?_ | refine zt ?_ | refine zu ?_ | refine zv ?_ | refine zw ?_ | refine zx ?_ | refine zy ?_ | refine zz ?_ | refine zza ?_ | refine zzb ?_ | refine zzc ?_ | refine zzd ?_ | refine zze ?_ | refine zzf ?_ | refine zzg ?_)
          refine x_load rfl rfl (hpmt (d2)) rfl trivial ?_
          repeat (first | refine za ?_ | refine zb ?_ | refine zc ?_ | refine zd ?_ | refine zg ?_ | refine zi ?_ | refine zj ?_ | refine zl ?_ | refine zm ?_ | refine zn ?_ | refine zo ?_ | refine zq ?_ | refine zr ?_ | refine zt ?_ | refine zu ?_ | refine zv ?_ | refine zw ?_ | refine zx ?_ | refine zy ?_ | refine zz ?_ | refine zza ?_ | refine zzb ?_ | refine zzc ?_ | refine zzd ?_ | refine zze ?_ | refine zzf ?_ | refine zzg ?_)
          refine cw_say 144 (.bool false) rfl (by simp) ?_
          repeat (first | refine za ?_ | refine zb ?_ | refine zc ?_ | refine zd ?_ | refine zg ?_ | refine zi ?_ | refine zj ?_ | refine zl ?_ | refine zm ?_ | refine zn ?_ | refine zo ?_ | refine zq ?_ | refine zr ?_ | refine zt ?_ | refine zu ?_ | refine zv ?_ | refine zw ?_ | refine zx ?_ | refine zy ?_ | refine zz ?_ | refine zza ?_ | refine zzb ?_ | refine zzc ?_ | refine zzd ?_ | refine zze ?_ | refine zzf ?_ | refine zzg ?_)
          exact nw_round (d + 1, t7.isNode) (by repeat (first | exact True.intro | refine ⟨rfl, ?_⟩)) ⟨hd1, G', t7, hM8, by show t7.count = i - (d + 1); omega, rfl, hth7⟩ (by show i - (d + 1) < i - d; omega)
      · repeat (first | refine za ?_ | refine zb ?_ | refine zc ?_ | refine zd ?_ | refine zg ?_ | refine zi ?_ | refine zj ?_ | refine zl ?_ | refine zm ?_ | refine zn ?_ | refine zo ?_ | refine zq ?_ | refine zr ?_ | refine zt ?_ | refine zu ?_ | refine zv ?_ | refine zw ?_ | refine zx ?_ | refine zy ?_ | refine zz ?_ | refine zza ?_ | refine zzb ?_ | refine zzc ?_ | refine zzd ?_ | refine zze ?_ | refine zzf ?_ | refine zzg ?_)
        refine x_call rfl rfl rfl trivial (awake15 _) ?_
        rintro _ Hz ⟨rfl, hkz⟩
        refine ⟨trivial, ?_⟩
        repeat (first | refine za ?_ | refine zb ?_ | refine zc ?_ | refine zd ?_ | refine zg ?_ | refine zi ?_ | refine zj ?_ | refine zl ?_ | refine zm ?_ | refine zn ?_ | refine zo ?_ | refine zq ?_ | refine zr ?_ | refine zt ?_ | refine zu ?_ | refine zv ?_ | refine zw ?_ | refine zx ?_ | refine zy ?_ | refine zz ?_ | refine zza ?_ | refine zzb ?_ | refine zzc ?_ | refine zzd ?_ | refine zze ?_ | refine zzf ?_ | refine zzg ?_)
        exact cw_ret1 rfl rfl ⟨rfl, (hM.keep).non_trans hkz⟩
    · repeat (first | refine za ?_ | refine zb ?_ | refine zc ?_ | refine zd ?_ | refine zg ?_ | refine zi ?_ | refine zj ?_ | refine zl ?_ | refine zm ?_ | refine zn ?_ | refine zo ?_ | refine zq ?_ | refine zr ?_ | refine zt ?_ | refine zu ?_ | refine zv ?_ | refine zw ?_ | refine zx ?_ | refine zy ?_ | refine zz ?_ | refine zza ?_ | refine zzb ?_ | refine zzc ?_ | refine zzd ?_ | refine zze ?_ | refine zzf ?_ | refine zzg ?_)
      refine x_call rfl rfl rfl trivial (awake15 _) ?_
      rintro _ Hz ⟨rfl, hkz⟩
      refine ⟨trivial, ?_⟩
      repeat (first | refine za ?_ | refine zb ?_ | refine zc ?_ | refine zd ?_ | refine zg ?_ | refine zi ?_ | refine zj ?_ | refine zl ?_ | refine zm ?_ | refine zn ?_ | refine zo ?_ | refine zq ?_ | refine zr ?_ | refine zt ?_ | refine zu ?_ | refine zv ?_ | refine zw ?_ | refine zx ?_ | refine zy ?_ | refine zz ?_ | refine zza ?_ | refine zzb ?_ | refine zzc ?_ | refine zzd ?_ | refine zze ?_ | refine zzf ?_ | refine zzg ?_)
      exact cw_ret1 rfl rfl ⟨rfl, (hM.keep).non_trans hkz⟩
end Go.Proofs.Ytaloblomncjgkaa.X
