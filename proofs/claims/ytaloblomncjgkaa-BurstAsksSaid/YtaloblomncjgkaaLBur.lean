/- Chapter 15's statements: what every program answers that is one. -/
import Derived.Test.YtaloblomncjgkaaBtr3
import Derived.Test.YtaloblomncjgkaaLow
namespace Go.Proofs.Ytaloblomncjgkaa.X
open Go Go.Proofs
set_option linter.unusedVariables false
set_option linter.unusedSimpArgs false
set_option maxRecDepth 10000
set_option maxHeartbeats 2000000

/-- a tree in blocks of its own, all of them made since H0 -/
structure Mine (H0 : Heap) (G : Role) (H : Heap) (b most : Nat) (t : BT) : Prop where
  bu : Bu G H b most t
  from_ : G.From H0.size
  keep : Keep Non H0 H
section mine
variable {H0 H H' : Heap} {G G' : Role} {b most : Nat} {t t' : BT}
theorem Mine.keepN (h : Mine H0 G H b most t) (k : Keep Non H H') : Mine H0 G H' b most t := ⟨h.bu.keepN k, h.from_, h.keep.non_trans k⟩
theorem Mine.turn (h : Mine H0 G H b most t) (k : Keep (fun z => G z ≠ 0) H H') (hE : G.Ext G' H H') (hB : Bu G' H' b most t') : Mine H0 G' H' b most t' :=
  ⟨hB, h.from_.ext hE h.keep.size, h.from_.keep h.keep k (fun _ h => h)⟩
end mine
theorem awake15 (H : Heap) : Ret Try.prog 15 [] H (Yes H) := by
  refine ret_of Try.func15 rfl rfl rfl rfl ?_
  intro w0
  repeat (first | refine za ?_ | refine zb ?_ | refine zg ?_ | refine zj ?_ | refine zm ?_ | refine zn ?_ | refine zo ?_ | refine zr ?_ | refine zt ?_ | refine zu ?_ | refine zx ?_ | refine zy ?_ | refine zz ?_ | refine zzc ?_ | refine zzd ?_ | refine zzf ?_ | refine zzg ?_)
  refine x_call rfl rfl rfl trivial (tree_New 40) ?_
  rintro v1 H1 h1
  refine ⟨trivial, ?_⟩
  rcases h1 with ⟨h1, _⟩ | ⟨_, _, hk1, b, G1, rfl, hF1, hB1⟩
  · omega
  have hM1 : Mine H G1 H1 b 40 .nil := ⟨hB1, hF1, hk1⟩
  clear hB1 hF1
  repeat (first | refine za ?_ | refine zb ?_ | refine zg ?_ | refine zj ?_ | refine zm ?_ | refine zn ?_ | refine zo ?_ | refine zr ?_ | refine zt ?_ | refine zu ?_ | refine zx ?_ | refine zy ?_ | refine zz ?_ | refine zzc ?_ | refine zzd ?_ | refine zzf ?_ | refine zzg ?_)
  refine x_buildSlice rfl rfl rfl rfl (by omega) (by simp [oneC, Value.oneCell']) rfl trivial ?_
  intro H2a hn2
  refine ⟨trivial, ?_⟩
  repeat (first | refine za ?_ | refine zb ?_ | refine zg ?_ | refine zj ?_ | refine zm ?_ | refine zn ?_ | refine zo ?_ | refine zr ?_ | refine zt ?_ | refine zu ?_ | refine zx ?_ | refine zy ?_ | refine zz ?_ | refine zzc ?_ | refine zzd ?_ | refine zzf ?_ | refine zzg ?_)
  refine x_mark (l := bvs [97]) rfl rfl hn2.raw rfl trivial ?_
  intro H2 hB2 hK2 hs2
  refine ⟨trivial, ?_⟩
  have hb2 := konst_bs hB2 (by decide)
  have hk2 := keep_at hn2.keep hK2 (Nat.le_refl _)
  have hM2 := hM1.keepN hk2
  repeat (first | refine za ?_ | refine zb ?_ | refine zg ?_ | refine zj ?_ | refine zm ?_ | refine zn ?_ | refine zo ?_ | refine zr ?_ | refine zt ?_ | refine zu ?_ | refine zx ?_ | refine zy ?_ | refine zz ?_ | refine zzc ?_ | refine zzd ?_ | refine zzf ?_ | refine zzg ?_)
  refine x_call rfl rfl rfl trivial (tree_Put 1 hM2.bu (by decide) hb2 (fun _ => hM1.bu.gin.off (Nat.le_refl _))) ?_
  rintro r3 H3 h3
  refine ⟨trivial, ?_⟩
  have hz1 := BT.put_size .nil (w := []) (p := ([97], 1)) trivial rfl (by decide)
  have hp1 : (BT.nil.put [] ([97], 1)).pairs [] = [([97], 1)] := rfl
  simp only [List.length_nil, List.length_cons, BT.size] at hz1
  cases h3 with
  | long h => exact absurd h (by decide)
  | full h hn hm => omega
  | put h hm e keep G3 hE3 hB3 =>
    subst e
    have e3 : getM (BT.nil.pairs []) [97] = none := rfl
    have e4 : there (BT.nil.pairs []) [97] = false := rfl
    rw [e3, e4]
    generalize BT.nil.put [] ([97], 1) = t1 at hp1 hz1 hB3 hm
    have hM3 := hM2.turn keep hE3 hB3
    have hl1 : t1.count = 1 := by rw [← hM3.bu.len, hp1]; rfl
    clear hB3 keep hE3
    repeat (first | refine za ?_ | refine zb ?_ | refine zg ?_ | refine zj ?_ | refine zm ?_ | refine zn ?_ | refine zo ?_ | refine zr ?_ | refine zt ?_ | refine zu ?_ | refine zx ?_ | refine zy ?_ | refine zz ?_ | refine zzc ?_ | refine zzd ?_ | refine zzf ?_ | refine zzg ?_)
    refine x_buildSlice rfl rfl rfl rfl (by omega) (by simp [oneC, Value.oneCell']) rfl trivial ?_
    intro H4a hn4
    refine ⟨trivial, ?_⟩
    repeat (first | refine za ?_ | refine zb ?_ | refine zg ?_ | refine zj ?_ | refine zm ?_ | refine zn ?_ | refine zo ?_ | refine zr ?_ | refine zt ?_ | refine zu ?_ | refine zx ?_ | refine zy ?_ | refine zz ?_ | refine zzc ?_ | refine zzd ?_ | refine zzf ?_ | refine zzg ?_)
    refine x_mark (l := bvs [97]) rfl rfl hn4.raw rfl trivial ?_
    intro H4 hB4 hK4 hs4
    refine ⟨trivial, ?_⟩
    have hb4 := konst_bs hB4 (by decide)
    have hk4 := keep_at hn4.keep hK4 (Nat.le_refl _)
    have hM4 := hM3.keepN hk4
    repeat (first | refine za ?_ | refine zb ?_ | refine zg ?_ | refine zj ?_ | refine zm ?_ | refine zn ?_ | refine zo ?_ | refine zr ?_ | refine zt ?_ | refine zu ?_ | refine zx ?_ | refine zy ?_ | refine zz ?_ | refine zzc ?_ | refine zzd ?_ | refine zzf ?_ | refine zzg ?_)
    refine x_call rfl rfl rfl trivial (tree_Put 2 hM4.bu (by omega) hb4 (fun _ => hM3.bu.gin.off (Nat.le_refl _))) ?_
    rintro r5 H5 h5
    refine ⟨trivial, ?_⟩
    have hz2 := BT.put_size t1 (w := []) (p := ([97], 2)) hM4.bu.wf rfl (by decide)
    have hp2 : (t1.put [] ([97], 2)).pairs [] = [([97], 2)] := by rw [BT.put_pairs hM4.bu.wf.wf0 rfl (by decide), hp1]; rfl
    simp only [List.length_nil, List.length_cons] at hz2
    cases h5 with
    | long h => exact absurd h (by decide)
    | full h hn hm => rw [hp1] at hn; exact absurd hn (by decide)
    | put h hm e keep G5 hE5 hB5 =>
      subst e
      have e3 : getM (t1.pairs []) [97] = some 1 := by rw [hp1]; rfl
      have e4 : there (t1.pairs []) [97] = true := by rw [hp1]; rfl
      rw [e3, e4]
      generalize t1.put [] ([97], 2) = t2 at hp2 hz2 hB5 hm
      have hM5 := hM4.turn keep hE5 hB5
      have hl2 : t2.count = 1 := by rw [← hM5.bu.len, hp2]; rfl
      clear hB5 keep hE5
      repeat (first | refine za ?_ | refine zb ?_ | refine zg ?_ | refine zj ?_ | refine zm ?_ | refine zn ?_ | refine zo ?_ | refine zr ?_ | refine zt ?_ | refine zu ?_ | refine zx ?_ | refine zy ?_ | refine zz ?_ | refine zzc ?_ | refine zzd ?_ | refine zzf ?_ | refine zzg ?_)
      refine x_buildSlice rfl rfl rfl rfl (by omega) (by simp [oneC, Value.oneCell']) rfl trivial ?_
      intro H6a hn6
      refine ⟨trivial, ?_⟩
      repeat (first | refine za ?_ | refine zb ?_ | refine zg ?_ | refine zj ?_ | refine zm ?_ | refine zn ?_ | refine zo ?_ | refine zr ?_ | refine zt ?_ | refine zu ?_ | refine zx ?_ | refine zy ?_ | refine zz ?_ | refine zzc ?_ | refine zzd ?_ | refine zzf ?_ | refine zzg ?_)
      refine x_mark (l := bvs [97, 98]) rfl rfl hn6.raw rfl trivial ?_
      intro H6 hB6 hK6 hs6
      refine ⟨trivial, ?_⟩
      have hb6 := konst_bs hB6 (by decide)
      have hk6 := keep_at hn6.keep hK6 (Nat.le_refl _)
      have hM6 := hM5.keepN hk6
      repeat (first | refine za ?_ | refine zb ?_ | refine zg ?_ | refine zj ?_ | refine zm ?_ | refine zn ?_ | refine zo ?_ | refine zr ?_ | refine zt ?_ | refine zu ?_ | refine zx ?_ | refine zy ?_ | refine zz ?_ | refine zzc ?_ | refine zzd ?_ | refine zzf ?_ | refine zzg ?_)
      refine x_call rfl rfl rfl trivial (tree_Put 3 hM6.bu (by omega) hb6 (fun _ => hM5.bu.gin.off (Nat.le_refl _))) ?_
      rintro r7 H7 h7
      refine ⟨trivial, ?_⟩
      have hz3 := BT.put_size t2 (w := []) (p := ([97, 98], 3)) hM6.bu.wf rfl (by decide)
      have hp3 : (t2.put [] ([97, 98], 3)).pairs [] = [([97], 2), ([97, 98], 3)] := by rw [BT.put_pairs hM6.bu.wf.wf0 rfl (by decide), hp2]; rfl
      simp only [List.length_nil, List.length_cons] at hz3
      cases h7 with
      | long h => exact absurd h (by decide)
      | full h hn hm => omega
      | put h hm e keep G7 hE7 hB7 =>
        subst e
        have e3 : getM (t2.pairs []) [97, 98] = none := by rw [hp2]; rfl
        have e4 : there (t2.pairs []) [97, 98] = false := by rw [hp2]; rfl
        rw [e3, e4]
        generalize t2.put [] ([97, 98], 3) = t3 at hp3 hz3 hB7 hm
        have hM7 := hM6.turn keep hE7 hB7
        have hl3 : t3.count = 2 := by rw [← hM7.bu.len, hp3]; rfl
        clear hB7 keep hE7
        repeat (first | refine za ?_ | refine zb ?_ | refine zg ?_ | refine zj ?_ | refine zm ?_ | refine zn ?_ | refine zo ?_ | refine zr ?_ | refine zt ?_ | refine zu ?_ | refine zx ?_ | refine zy ?_ | refine zz ?_ | refine zzc ?_ | refine zzd ?_ | refine zzf ?_ | refine zzg ?_)
        refine x_call rfl rfl rfl trivial (law_Long 65536 (by omega) 1 H7) ?_
        rintro vl H8 ⟨hk8, hlo, hlf⟩
        refine ⟨trivial, ?_⟩
        have hM8 := hM7.keepN hk8
        have hLl : ((List.replicate 65536 (120 : UInt8)).set (65536 - 1) 1).length = 65536 := by rw [List.length_set, List.length_replicate]
        generalize (List.replicate 65536 (120 : UInt8)).set (65536 - 1) 1 = lk at hlo hLl
        have hLk : Bs H8 vl lk := Own.bs (by rw [hLl]; exact hlo)
        repeat (first | refine za ?_ | refine zb ?_ | refine zg ?_ | refine zj ?_ | refine zm ?_ | refine zn ?_ | refine zo ?_ | refine zr ?_ | refine zt ?_ | refine zu ?_ | refine zx ?_ | refine zy ?_ | refine zz ?_ | refine zzc ?_ | refine zzd ?_ | refine zzf ?_ | refine zzg ?_)
        refine x_call rfl rfl rfl trivial (tree_Put 1 hM8.bu (by omega) hLk (fun hne => hM7.bu.gin.off (hlf (by have := hlo.sl.cap; omega)))) ?_
        rintro r9 H9 h9
        refine ⟨trivial, ?_⟩
        cases h9 with
        | full h => omega
        | put h => omega
        | long h e keep =>
          subst e
          have hM9 := hM8.keepN keep
          repeat (first | refine za ?_ | refine zb ?_ | refine zg ?_ | refine zj ?_ | refine zm ?_ | refine zn ?_ | refine zo ?_ | refine zr ?_ | refine zt ?_ | refine zu ?_ | refine zx ?_ | refine zy ?_ | refine zz ?_ | refine zzc ?_ | refine zzd ?_ | refine zzf ?_ | refine zzg ?_)
          refine x_buildSlice rfl rfl rfl rfl (by omega) (by simp [oneC, Value.oneCell']) rfl trivial ?_
          intro H10a hn10
          refine ⟨trivial, ?_⟩
          repeat (first | refine za ?_ | refine zb ?_ | refine zg ?_ | refine zj ?_ | refine zm ?_ | refine zn ?_ | refine zo ?_ | refine zr ?_ | refine zt ?_ | refine zu ?_ | refine zx ?_ | refine zy ?_ | refine zz ?_ | refine zzc ?_ | refine zzd ?_ | refine zzf ?_ | refine zzg ?_)
          refine x_mark (l := bvs [97, 98, 99]) rfl rfl hn10.raw rfl trivial ?_
          intro H10 hB10 hK10 hs10
          refine ⟨trivial, ?_⟩
          have hb10 := konst_bs hB10 (by decide)
          have hk10 := keep_at hn10.keep hK10 (Nat.le_refl _)
          have hM10 := hM9.keepN hk10
          repeat (first | refine za ?_ | refine zb ?_ | refine zg ?_ | refine zj ?_ | refine zm ?_ | refine zn ?_ | refine zo ?_ | refine zr ?_ | refine zt ?_ | refine zu ?_ | refine zx ?_ | refine zy ?_ | refine zz ?_ | refine zzc ?_ | refine zzd ?_ | refine zzf ?_ | refine zzg ?_)
          refine x_call rfl rfl rfl trivial (tree_Longest hM10.bu (by omega) hb10) ?_
          have hlong : longM (t3.pairs []) [97, 98, 99] = some ([97, 98], 3) := by rw [hp3]; decide
          rw [hlong]
          rintro _ H11 ⟨hk11, c, rfl, hc11, hf11⟩
          refine ⟨trivial, ?_⟩
          have hM11 := hM10.keepN hk11
          repeat (first | refine za ?_ | refine zb ?_ | refine zg ?_ | refine zj ?_ | refine zm ?_ | refine zn ?_ | refine zo ?_ | refine zr ?_ | refine zt ?_ | refine zu ?_ | refine zx ?_ | refine zy ?_ | refine zz ?_ | refine zzc ?_ | refine zzd ?_ | refine zzf ?_ | refine zzg ?_)
          refine x_alloc rfl rfl trivial ?_
          intro H12 hn12
          refine ⟨trivial, ?_⟩
          refine x_stores rfl rfl rfl rfl (two_oneC' (isSl_oneC hc11.sl)) hn12.blk (by simp) trivial ?_
          intro H13 hB13 hk13 hs13
          refine ⟨trivial, ?_⟩
          have hk1113 : Keep Non H11 H13 := keep_at hn12.keep hk13 (Nat.le_refl _)
          have hM13 := hM11.keepN hk1113
          have hC13 : Bs H13 c [97, 98] := (Own.bs (l := [97, 98]) hc11).keepN hk1113
          have d0 : cel H13 H11.size 0 = some c := by rw [hB13.cel]; rfl
          repeat (first | refine za ?_ | refine zb ?_ | refine zg ?_ | refine zj ?_ | refine zm ?_ | refine zn ?_ | refine zo ?_ | refine zr ?_ | refine zt ?_ | refine zu ?_ | refine zx ?_ | refine zy ?_ | refine zz ?_ | refine zzc ?_ | refine zzd ?_ | refine zzf ?_ | refine zzg ?_)
          refine x_load rfl rfl (hpmt (d0)) rfl trivial ?_
          refine x_tostr rfl rfl (hpmt hC13) rfl trivial ?_
          refine x_seql rfl rfl rfl rfl trivial ?_
          rw [str_list]
          repeat (first | refine za ?_ | refine zb ?_ | refine zg ?_ | refine zj ?_ | refine zm ?_ | refine zn ?_ | refine zo ?_ | refine zr ?_ | refine zt ?_ | refine zu ?_ | refine zx ?_ | refine zy ?_ | refine zz ?_ | refine zzc ?_ | refine zzd ?_ | refine zzf ?_ | refine zzg ?_)
          refine x_call rfl rfl rfl trivial (tree_Len hM13.bu) ?_
          rintro _ _ ⟨rfl, rfl⟩
          refine ⟨trivial, ?_⟩
          rw [hl3]
          repeat (first | refine za ?_ | refine zb ?_ | refine zg ?_ | refine zj ?_ | refine zm ?_ | refine zn ?_ | refine zo ?_ | refine zr ?_ | refine zt ?_ | refine zu ?_ | refine zx ?_ | refine zy ?_ | refine zz ?_ | refine zzc ?_ | refine zzd ?_ | refine zzf ?_ | refine zzg ?_)
          refine x_call rfl rfl rfl trivial (tree_Most hM13.bu) ?_
          rintro _ _ ⟨rfl, rfl⟩
          refine ⟨trivial, ?_⟩
          repeat (first | refine za ?_ | refine zb ?_ | refine zg ?_ | refine zj ?_ | refine zm ?_ | refine zn ?_ | refine zo ?_ | refine zr ?_ | refine zt ?_ | refine zu ?_ | refine zx ?_ | refine zy ?_ | refine zz ?_ | refine zzc ?_ | refine zzd ?_ | refine zzf ?_ | refine zzg ?_)
          refine x_call rfl rfl rfl trivial (tree_New (-1)) ?_
          rintro vz Hz hz
          refine ⟨trivial, ?_⟩
          rcases hz with ⟨_, rfl, rfl⟩ | ⟨hz, _⟩
          · repeat (first | refine za ?_ | refine zb ?_ | refine zg ?_ | refine zj ?_ | refine zm ?_ | refine zn ?_ | refine zo ?_ | refine zr ?_ | refine zt ?_ | refine zu ?_ | refine zx ?_ | refine zy ?_ | refine zz ?_ | refine zzc ?_ | refine zzd ?_ | refine zzf ?_ | refine zzg ?_)
            exact cw_ret1 rfl rfl ⟨rfl, hM13.keep⟩
          · omega
end Go.Proofs.Ytaloblomncjgkaa.X
