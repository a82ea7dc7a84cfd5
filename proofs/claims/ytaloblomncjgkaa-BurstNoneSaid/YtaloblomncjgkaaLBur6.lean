/- Chapter 15's statements: BurstNone. -/
import Derived.Test.YtaloblomncjgkaaLBur
import Derived.Test.YtaloblomncjgkaaLBur2
import Derived.Test.YtaloblomncjgkaaBtr4
import Derived.Test.YtaloblomncjgkaaCls2
import Derived.Test.YtaloblomncjgkaaBys
namespace Go.Proofs.Ytaloblomncjgkaa.X
open Go Go.Proofs
set_option linter.unusedVariables false
set_option linter.unusedSimpArgs false
set_option maxRecDepth 10000
set_option maxHeartbeats 2000000

theorem walk_BurstNone {vk : Value} {k : Bytes} {n : Int} {H : Heap} (hK : Bs H vk k) : Ret Try.prog 13 [vk, .int .i64 n] H (Yes H) := by
  have sK := hK.sl
  have cK := sK.cap
  refine ret_of Try.func13 rfl rfl rfl rfl ?_
  intro w0
  repeat (first | refine za ?_ | refine zb ?_ | refine zg ?_ | refine zh ?_ | refine zj ?_ | refine zl ?_ | refine zm ?_ | refine zn ?_ | refine zo ?_ | refine zr ?_ | refine zu ?_ | refine zx ?_ | refine zy ?_ | refine zz ?_ | refine zzc ?_ | refine zzd ?_ | refine zzf ?_ | refine zzg ?_)
  refine cw_cond rfl (fun hk => ?_) (fun hk => ?_) <;> (try simp at hk)
  · repeat (first | refine za ?_ | refine zb ?_ | refine zg ?_ | refine zh ?_ | refine zj ?_ | refine zl ?_ | refine zm ?_ | refine zn ?_ | refine zo ?_ | refine zr ?_ | refine zu ?_ | refine zx ?_ | refine zy ?_ | refine zz ?_ | refine zzc ?_ | refine zzd ?_ | refine zzf ?_ | refine zzg ?_)
    refine x_call rfl rfl rfl trivial (awake15 _) ?_
    rintro _ Hz ⟨rfl, hkz⟩
    refine ⟨trivial, ?_⟩
    repeat (first | refine za ?_ | refine zb ?_ | refine zg ?_ | refine zh ?_ | refine zj ?_ | refine zl ?_ | refine zm ?_ | refine zn ?_ | refine zo ?_ | refine zr ?_ | refine zu ?_ | refine zx ?_ | refine zy ?_ | refine zz ?_ | refine zzc ?_ | refine zzd ?_ | refine zzf ?_ | refine zzg ?_)
    exact cw_ret1 rfl rfl ⟨rfl, (Keep.refl Non H).non_trans hkz⟩
  · have hn0 : there ([] : List Pr) k = false := rfl
    repeat (first | refine za ?_ | refine zb ?_ | refine zg ?_ | refine zh ?_ | refine zj ?_ | refine zl ?_ | refine zm ?_ | refine zn ?_ | refine zo ?_ | refine zr ?_ | refine zu ?_ | refine zx ?_ | refine zy ?_ | refine zz ?_ | refine zzc ?_ | refine zzd ?_ | refine zzf ?_ | refine zzg ?_)
    refine x_call rfl rfl rfl trivial (tree_PutN 1) ?_
    rintro _ _ ⟨rfl, rfl⟩
    refine ⟨trivial, ?_⟩
    repeat (first | refine za ?_ | refine zb ?_ | refine zg ?_ | refine zh ?_ | refine zj ?_ | refine zl ?_ | refine zm ?_ | refine zn ?_ | refine zo ?_ | refine zr ?_ | refine zu ?_ | refine zx ?_ | refine zy ?_ | refine zz ?_ | refine zzc ?_ | refine zzd ?_ | refine zzf ?_ | refine zzg ?_)
    refine x_call rfl rfl rfl trivial (tree_GetN) ?_
    rintro _ _ ⟨rfl, rfl⟩
    refine ⟨trivial, ?_⟩
    repeat (first | refine za ?_ | refine zb ?_ | refine zg ?_ | refine zh ?_ | refine zj ?_ | refine zl ?_ | refine zm ?_ | refine zn ?_ | refine zo ?_ | refine zr ?_ | refine zu ?_ | refine zx ?_ | refine zy ?_ | refine zz ?_ | refine zzc ?_ | refine zzd ?_ | refine zzf ?_ | refine zzg ?_)
    refine x_call rfl rfl rfl trivial tree_FloorN ?_
    rintro _ H1 ⟨hk1, c1, rfl, hc1, hf1⟩
    refine ⟨trivial, ?_⟩
    repeat (first | refine za ?_ | refine zb ?_ | refine zg ?_ | refine zh ?_ | refine zj ?_ | refine zl ?_ | refine zm ?_ | refine zn ?_ | refine zo ?_ | refine zr ?_ | refine zu ?_ | refine zx ?_ | refine zy ?_ | refine zz ?_ | refine zzc ?_ | refine zzd ?_ | refine zzf ?_ | refine zzg ?_)
    refine x_alloc rfl rfl trivial ?_
    intro H2 hn2
    refine ⟨trivial, ?_⟩
    refine x_stores rfl rfl rfl rfl (two_oneC' (isSl_oneC hc1.sl)) hn2.blk (by simp) trivial ?_
    intro H3 hB3 hk3 hs3
    refine ⟨trivial, ?_⟩
    have hq1 : Keep Non H1 H3 := keep_at hn2.keep hk3 (Nat.le_refl _)
    repeat (first | refine za ?_ | refine zb ?_ | refine zg ?_ | refine zh ?_ | refine zj ?_ | refine zl ?_ | refine zm ?_ | refine zn ?_ | refine zo ?_ | refine zr ?_ | refine zu ?_ | refine zx ?_ | refine zy ?_ | refine zz ?_ | refine zzc ?_ | refine zzd ?_ | refine zzf ?_ | refine zzg ?_)
    refine x_call rfl rfl rfl trivial (tree_SelectN n) ?_
    rintro _ H4 ⟨hk4, c4, rfl, hc4, hf4⟩
    refine ⟨trivial, ?_⟩
    repeat (first | refine za ?_ | refine zb ?_ | refine zg ?_ | refine zh ?_ | refine zj ?_ | refine zl ?_ | refine zm ?_ | refine zn ?_ | refine zo ?_ | refine zr ?_ | refine zu ?_ | refine zx ?_ | refine zy ?_ | refine zz ?_ | refine zzc ?_ | refine zzd ?_ | refine zzf ?_ | refine zzg ?_)
    refine x_alloc rfl rfl trivial ?_
    intro H5 hn5
    refine ⟨trivial, ?_⟩
    refine x_stores rfl rfl rfl rfl (two_oneC' (isSl_oneC hc4.sl)) hn5.blk (by simp) trivial ?_
    intro H6 hB6 hk6 hs6
    refine ⟨trivial, ?_⟩
    have hq4 : Keep Non H4 H6 := keep_at hn5.keep hk6 (Nat.le_refl _)
    have hk06 : Keep Non H H6 := (hk1.non_trans hq1).non_trans (hk4.non_trans hq4)
    repeat (first | refine za ?_ | refine zb ?_ | refine zg ?_ | refine zh ?_ | refine zj ?_ | refine zl ?_ | refine zm ?_ | refine zn ?_ | refine zo ?_ | refine zr ?_ | refine zu ?_ | refine zx ?_ | refine zy ?_ | refine zz ?_ | refine zzc ?_ | refine zzd ?_ | refine zzf ?_ | refine zzg ?_)
    refine x_call rfl rfl rfl trivial (tree_New 0) ?_
    rintro v7 H7 h7
    refine ⟨trivial, ?_⟩
    rcases h7 with ⟨h7, _⟩ | ⟨_, _, hk7, b, G, rfl, hF7, hB7⟩
    · omega
    have hk07 := hk06.non_trans hk7
    repeat (first | refine za ?_ | refine zb ?_ | refine zg ?_ | refine zh ?_ | refine zj ?_ | refine zl ?_ | refine zm ?_ | refine zn ?_ | refine zo ?_ | refine zr ?_ | refine zu ?_ | refine zx ?_ | refine zy ?_ | refine zz ?_ | refine zzc ?_ | refine zzd ?_ | refine zzf ?_ | refine zzg ?_)
    refine x_call rfl rfl rfl trivial (tree_New 1048576) ?_
    rintro v8 H8 h8
    refine ⟨trivial, ?_⟩
    rcases h8 with ⟨h8, _⟩ | ⟨_, _, hk8, b8, G8, rfl, hF8, hB8⟩
    · omega
    repeat (first | refine za ?_ | refine zb ?_ | refine zg ?_ | refine zh ?_ | refine zj ?_ | refine zl ?_ | refine zm ?_ | refine zn ?_ | refine zo ?_ | refine zr ?_ | refine zu ?_ | refine zx ?_ | refine zy ?_ | refine zz ?_ | refine zzc ?_ | refine zzd ?_ | refine zzf ?_ | refine zzg ?_)
    refine x_call rfl rfl rfl trivial (tree_New 1048577) ?_
    rintro v9 H9 h9
    refine ⟨trivial, ?_⟩
    rcases h9.symm with ⟨h9, h9', _⟩ | ⟨_, rfl, rfl⟩
    · omega
    have hk08 := hk07.non_trans hk8
    have hB := hB7.keepN hk8
    have hoff : ∀ z, z < H.size → G z = 0 := fun z hz => by
      by_cases e : G z = 0
      · exact e
      · have := hF7 z e
        have := hk06.size
        omega
    clear hB7 hB8 hF8
    have hK8 := hK.keepN hk08
    repeat (first | refine za ?_ | refine zb ?_ | refine zg ?_ | refine zh ?_ | refine zj ?_ | refine zl ?_ | refine zm ?_ | refine zn ?_ | refine zo ?_ | refine zr ?_ | refine zu ?_ | refine zx ?_ | refine zy ?_ | refine zz ?_ | refine zzc ?_ | refine zzd ?_ | refine zzf ?_ | refine zzg ?_)
    refine x_call rfl rfl rfl trivial (tree_Put 1 hB (by decide) hK8 (fun hne => hoff _ (hK.lt hne))) ?_
    rintro r9 H9 h9
    refine ⟨trivial, ?_⟩
    cases h9 with
    | long h e hk9 => omega
    | put h hm e hk9 G' hE hB' =>
      rcases hm with hm | hm
      · exact absurd hm (by rw [show there (BT.nil.pairs []) k = false from rfl]; simp)
      · have hm : (1 : Nat) ≤ 0 := hm
        omega
    | full h hn hm e hk9 =>
      subst e
      have hk09 := hk08.non_trans hk9
      have hB9 := hB.keepN hk9
      repeat (first | refine za ?_ | refine zb ?_ | refine zg ?_ | refine zh ?_ | refine zj ?_ | refine zl ?_ | refine zm ?_ | refine zn ?_ | refine zo ?_ | refine zr ?_ | refine zu ?_ | refine zx ?_ | refine zy ?_ | refine zz ?_ | refine zzc ?_ | refine zzd ?_ | refine zzf ?_ | refine zzg ?_)
      refine x_call rfl rfl rfl trivial (tree_Ceil hB9 (by decide) (Bs.nil H9)) ?_
      rw [show ceilM (BT.nil.pairs []) [] = none from rfl]
      rintro _ H10 ⟨hk10, c10, rfl, hc10, hf10⟩
      refine ⟨trivial, ?_⟩
      repeat (first | refine za ?_ | refine zb ?_ | refine zg ?_ | refine zh ?_ | refine zj ?_ | refine zl ?_ | refine zm ?_ | refine zn ?_ | refine zo ?_ | refine zr ?_ | refine zu ?_ | refine zx ?_ | refine zy ?_ | refine zz ?_ | refine zzc ?_ | refine zzd ?_ | refine zzf ?_ | refine zzg ?_)
      refine x_alloc rfl rfl trivial ?_
      intro H11 hn11
      refine ⟨trivial, ?_⟩
      refine x_stores rfl rfl rfl rfl (two_oneC' (isSl_oneC hc10.sl)) hn11.blk (by simp) trivial ?_
      intro H12 hB12 hk12 hs12
      refine ⟨trivial, ?_⟩
      have hq10 : Keep Non H10 H12 := keep_at hn11.keep hk12 (Nat.le_refl _)
      have hk0c := hk09.non_trans (hk10.non_trans hq10)
      have hB12 := hB9.keepN (hk10.non_trans hq10)
      repeat (first | refine za ?_ | refine zb ?_ | refine zg ?_ | refine zh ?_ | refine zj ?_ | refine zl ?_ | refine zm ?_ | refine zn ?_ | refine zo ?_ | refine zr ?_ | refine zu ?_ | refine zx ?_ | refine zy ?_ | refine zz ?_ | refine zzc ?_ | refine zzd ?_ | refine zzf ?_ | refine zzg ?_)
      refine x_conv_int rfl rfl rfl trivial ?_
      obtain ⟨y, hy⟩ : ∃ y : UInt8, IntKind.u8.wrap n = (y.toNat : Int) := ⟨UInt8.ofNat (n % 256).toNat, by rw [wrap_u8_mod]; simp; omega⟩
      rw [hy]
      refine x_call rfl rfl rfl trivial (law_Long 65536 (by omega) y H12) ?_
      rintro lv H13 ⟨hk13, hol, hfl⟩
      refine ⟨trivial, ?_⟩
      obtain ⟨z, hz⟩ : ∃ z, z = (List.replicate 65536 120 : Bytes).set (65536 - 1) y := ⟨_, rfl⟩
      have hzl : z.length = 65536 := by rw [hz, List.length_set, List.length_replicate]
      rw [← hz] at hol
      have hZ : Bs H13 lv z := Own.bs (by rw [hzl]; exact hol)
      clear hz hol
      have hB13 := hB12.keepN hk13
      have hk0d := hk0c.non_trans hk13
      have hzoff : z ≠ [] → G (sb lv) = 0 := fun _ => by
        by_cases e : G (sb lv) = 0
        · exact e
        · have h1 := hB12.gin _ e
          have h2 := hZ.sl.cap.1
          have h3 := hfl (by omega)
          omega
      repeat (first | refine za ?_ | refine zb ?_ | refine zg ?_ | refine zh ?_ | refine zj ?_ | refine zl ?_ | refine zm ?_ | refine zn ?_ | refine zo ?_ | refine zr ?_ | refine zu ?_ | refine zx ?_ | refine zy ?_ | refine zz ?_ | refine zzc ?_ | refine zzd ?_ | refine zzf ?_ | refine zzg ?_)
      refine x_call rfl rfl rfl trivial (tree_Get hB13 (by decide) hZ) ?_
      rw [show there (BT.nil.pairs []) z = false from rfl]
      rintro _ H14 ⟨hk14, rfl⟩
      refine ⟨trivial, ?_⟩
      have hZ14 := hZ.keepN hk14
      have hB14 := hB13.keepN hk14
      repeat (first | refine za ?_ | refine zb ?_ | refine zg ?_ | refine zh ?_ | refine zj ?_ | refine zl ?_ | refine zm ?_ | refine zn ?_ | refine zo ?_ | refine zr ?_ | refine zu ?_ | refine zx ?_ | refine zy ?_ | refine zz ?_ | refine zzc ?_ | refine zzd ?_ | refine zzf ?_ | refine zzg ?_)
      refine x_call rfl rfl rfl trivial (tree_Drop hB14 (by decide) hZ14 hzoff) ?_
      rintro _ H15 ⟨rfl, h15⟩
      refine ⟨trivial, ?_⟩
      rw [show there (BT.nil.pairs []) z = false from rfl] at h15 ⊢
      rcases h15.symm with ⟨h15, _⟩ | ⟨_, hk15⟩
      · cases h15
      have hk0f := (hk0d.non_trans hk14).non_trans hk15
      have hZ15 := hZ14.keepN hk15
      have hB15 := hB14.keepN hk15
      repeat (first | refine za ?_ | refine zb ?_ | refine zg ?_ | refine zh ?_ | refine zj ?_ | refine zl ?_ | refine zm ?_ | refine zn ?_ | refine zo ?_ | refine zr ?_ | refine zu ?_ | refine zx ?_ | refine zy ?_ | refine zz ?_ | refine zzc ?_ | refine zzd ?_ | refine zzf ?_ | refine zzg ?_)
      refine x_call rfl rfl rfl trivial (tree_BuildN) ?_
      rintro _ _ ⟨rfl, rfl⟩
      refine ⟨trivial, ?_⟩
      repeat (first | refine za ?_ | refine zb ?_ | refine zg ?_ | refine zh ?_ | refine zj ?_ | refine zl ?_ | refine zm ?_ | refine zn ?_ | refine zo ?_ | refine zr ?_ | refine zu ?_ | refine zx ?_ | refine zy ?_ | refine zz ?_ | refine zzc ?_ | refine zzd ?_ | refine zzf ?_ | refine zzg ?_)
      refine x_call rfl rfl rfl trivial (tree_LenN) ?_
      rintro _ _ ⟨rfl, rfl⟩
      refine ⟨trivial, ?_⟩
      repeat (first | refine za ?_ | refine zb ?_ | refine zg ?_ | refine zh ?_ | refine zj ?_ | refine zl ?_ | refine zm ?_ | refine zn ?_ | refine zo ?_ | refine zr ?_ | refine zu ?_ | refine zx ?_ | refine zy ?_ | refine zz ?_ | refine zzc ?_ | refine zzd ?_ | refine zzf ?_ | refine zzg ?_)
      refine x_call rfl rfl rfl trivial (tree_LiveN) ?_
      rintro _ _ ⟨rfl, rfl⟩
      refine ⟨trivial, ?_⟩
      repeat (first | refine za ?_ | refine zb ?_ | refine zg ?_ | refine zh ?_ | refine zj ?_ | refine zl ?_ | refine zm ?_ | refine zn ?_ | refine zo ?_ | refine zr ?_ | refine zu ?_ | refine zx ?_ | refine zy ?_ | refine zz ?_ | refine zzc ?_ | refine zzd ?_ | refine zzf ?_ | refine zzg ?_)
      refine x_call rfl rfl rfl trivial (tree_RankN) ?_
      rintro _ _ ⟨rfl, rfl⟩
      refine ⟨trivial, ?_⟩
      repeat (first | refine za ?_ | refine zb ?_ | refine zg ?_ | refine zh ?_ | refine zj ?_ | refine zl ?_ | refine zm ?_ | refine zn ?_ | refine zo ?_ | refine zr ?_ | refine zu ?_ | refine zx ?_ | refine zy ?_ | refine zz ?_ | refine zzc ?_ | refine zzd ?_ | refine zzf ?_ | refine zzg ?_)
      refine x_call rfl rfl rfl trivial (tree_FromN 3) ?_
      rintro _ _ ⟨rfl, rfl⟩
      refine ⟨trivial, ?_⟩
      have s0 : IsSl (.slice none 0 0) 0 := isSl_nil
      repeat (first | refine za ?_ | refine zb ?_ | refine zg ?_ | refine zh ?_ | refine zj ?_ | refine zl ?_ | refine zm ?_ | refine zn ?_ | refine zo ?_ | refine zr ?_ | refine zu ?_ | refine zx ?_ | refine zy ?_ | refine zz ?_ | refine zzc ?_ | refine zzd ?_ | refine zzf ?_ | refine zzg ?_)
      refine x_call rfl rfl rfl trivial (tree_ShapeN) ?_
      rintro _ _ ⟨rfl, rfl⟩
      refine ⟨trivial, ?_⟩
      repeat (first | refine za ?_ | refine zb ?_ | refine zg ?_ | refine zh ?_ | refine zj ?_ | refine zl ?_ | refine zm ?_ | refine zn ?_ | refine zo ?_ | refine zr ?_ | refine zu ?_ | refine zx ?_ | refine zy ?_ | refine zz ?_ | refine zzc ?_ | refine zzd ?_ | refine zzf ?_ | refine zzg ?_)
      refine x_call rfl rfl rfl trivial (tree_Build hB15 (Po.nil 0 H15).ps (by simp) (by decide)) ?_
      rintro r16 H16 h16
      refine ⟨trivial, ?_⟩
      cases h16 with
      | bad h e keep => exact absurd rfl h
      | full h hm e keep => exact absurd hm (by decide)
      | ok h hm e keep G6 hE6 hB6 =>
        subst e
        have hB16 : Bu G6 H16 b 0 .nil := hB6
        have hk0g : Keep Non H H16 := (hF7.mono hk06.size).keep hk0f keep (fun _ h => h)
        have hZ16 := hZ15.keep keep (fun hne e => e (hzoff hne))
        repeat (first | refine za ?_ | refine zb ?_ | refine zg ?_ | refine zh ?_ | refine zj ?_ | refine zl ?_ | refine zm ?_ | refine zn ?_ | refine zo ?_ | refine zr ?_ | refine zu ?_ | refine zx ?_ | refine zy ?_ | refine zz ?_ | refine zzc ?_ | refine zzd ?_ | refine zzf ?_ | refine zzg ?_)
        refine x_build (cs := [lv, .int .u64 0]) rfl rfl rfl (fun x hx => by rcases List.mem_singleton.1 hx with rfl; exact isSl_oneC hZ.sl) rfl trivial ?_
        refine x_buildSliceS1 (by rfl) rfl rfl (by omega) (by rfl) rfl trivial ?_
        intro H17 hn17
        refine ⟨trivial, ?_⟩
        have hB17 := hB16.keepN hn17.keep
        have hP17 : Ps H17 (.slice (some ⟨H16.size, 0, none⟩) 1 1) [(z, 0)] := ⟨isSl_some (Nat.le_refl _) (by omega), [(lv, 0)], Pk.one (p := (z, 0)) (hZ16.keepN hn17.keep), hn17.blk.cels 0 2 (by simp)⟩
        have hmz : mayC [(z, 0)] = 3 := by
          unfold mayC
          rw [if_pos (longs_of (p := (z, 0)) (List.mem_singleton.2 rfl) (by show 65535 < z.length; omega))]
        refine x_call rfl rfl rfl trivial (tree_Build hB17 hP17 (by simp) (by show (BT.built [] [(z, 0)]).size ≤ _; rw [BT.built_one [] (by simp)]; omega)) ?_
        rintro r18 H18 h18
        refine ⟨trivial, ?_⟩
        cases h18 with
        | full h hm e keep => rw [hmz] at h; exact absurd h (by decide)
        | ok h hm e keep G6 hE6 hB6 => rw [hmz] at h; exact absurd h (by decide)
        | bad h e keep =>
          rw [hmz] at e
          subst e
          have hB18 := hB17.keepN keep
          have hk0h := (hn17.old hk0g).non_trans keep
          repeat (first | refine za ?_ | refine zb ?_ | refine zg ?_ | refine zh ?_ | refine zj ?_ | refine zl ?_ | refine zm ?_ | refine zn ?_ | refine zo ?_ | refine zr ?_ | refine zu ?_ | refine zx ?_ | refine zy ?_ | refine zz ?_ | refine zzc ?_ | refine zzd ?_ | refine zzf ?_ | refine zzg ?_)
          refine x_call rfl rfl rfl trivial (tree_Len hB18) ?_
          rintro _ _ ⟨rfl, rfl⟩
          refine ⟨trivial, ?_⟩
          repeat (first | refine za ?_ | refine zb ?_ | refine zg ?_ | refine zh ?_ | refine zj ?_ | refine zl ?_ | refine zm ?_ | refine zn ?_ | refine zo ?_ | refine zr ?_ | refine zu ?_ | refine zx ?_ | refine zy ?_ | refine zz ?_ | refine zzc ?_ | refine zzd ?_ | refine zzf ?_ | refine zzg ?_)
          refine x_call rfl rfl rfl trivial (tree_Live hB18) ?_
          rintro _ _ ⟨rfl, rfl⟩
          refine ⟨trivial, ?_⟩
          repeat (first | refine za ?_ | refine zb ?_ | refine zg ?_ | refine zh ?_ | refine zj ?_ | refine zl ?_ | refine zm ?_ | refine zn ?_ | refine zo ?_ | refine zr ?_ | refine zu ?_ | refine zx ?_ | refine zy ?_ | refine zz ?_ | refine zzc ?_ | refine zzd ?_ | refine zzf ?_ | refine zzg ?_)
          refine x_call rfl rfl rfl trivial (awake15 _) ?_
          rintro _ Hz ⟨rfl, hkz⟩
          refine ⟨trivial, ?_⟩
          repeat (first | refine za ?_ | refine zb ?_ | refine zg ?_ | refine zh ?_ | refine zj ?_ | refine zl ?_ | refine zm ?_ | refine zn ?_ | refine zo ?_ | refine zr ?_ | refine zu ?_ | refine zx ?_ | refine zy ?_ | refine zz ?_ | refine zzc ?_ | refine zzd ?_ | refine zzf ?_ | refine zzg ?_)
          exact cw_ret1 rfl rfl ⟨rfl, (hk0h).non_trans hkz⟩
end Go.Proofs.Ytaloblomncjgkaa.X
