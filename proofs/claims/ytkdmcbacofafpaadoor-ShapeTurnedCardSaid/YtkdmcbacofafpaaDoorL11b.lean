/- Chapter 11: a program that is one (awake), and ShapeTells, walked. -/
import Derived.Test.YtkdmcbacofafpaaDoorL11
import Derived.Test.YtkdmcbacofafpaaDoorK11c
namespace Go.Proofs.YtkdmcbacofafpaaDoor.X
open Go Go.Proofs
set_option linter.unusedVariables false
set_option linter.unusedSimpArgs false
set_option maxRecDepth 10000
set_option maxHeartbeats 4000000

/-- cells in a row of the call's own -/
theorem Sit.of {B0 : Nat} {H : Heap} {vc : Value} {l : List Cel} (hl : l.length ≤ 1000) (h : ∀ c ∈ l, SmallOne c) (hn : ∀ c ∈ l, NumC c) (hC : CR B0 H vc l) (ho : l ≠ [] → sb vc < B0) (h2 : 2 ≤ B0) (hB : B0 ≤ H.size) (hL : Laid H) : Sit B0 H vc l :=
  ⟨CelsOk.of hl h hn, hn, hC, ho, h2, hB, hL⟩
theorem Laid.two {H : Heap} (h : Laid H) : 2 ≤ H.size := by
  have := h.most 0 (by decide)
  exact lt_of_cel this
theorem CR.nil (B0 : Nat) (H : Heap) : CR B0 H (.slice none 0 0) [] := Rd.nil _ _ _
theorem Sit.none {H : Heap} (hL : Laid H) : Sit H.size H (.slice Option.none 0 0) [] :=
  Sit.of (Nat.zero_le _) (fun c hc => by cases hc) (fun c hc => by cases hc) (CR.nil _ _) (fun h => absurd rfl h) hL.two (Nat.le_refl _) hL
/-- one cell, laid in a new row -/
theorem Sit.one {W : Nat → Prop} {H H' : Heap} {y : Cel × Value × Value} {c : Cel} (hn : New H H' (encC y)) (hy : CelR W H y c) (hW : ∀ z, W z → z < H.size) (hc : SmallOne c) (hm : NumC c) (hL : Laid H) : Sit H'.size H' (.slice (some ⟨H.size, 0, Option.none⟩) 1 1) [c] := by
  have hs := hn.size
  refine Sit.of (by simp) (fun d hd => by rw [List.mem_singleton.1 hd]; exact hc) (fun d hd => by rw [List.mem_singleton.1 hd]; exact hm) ⟨isSl_some (Nat.le_refl _) (by omega), [y], Al.one (hy.step hn.keep (fun _ _ h => h) (fun z hz => by have := hW z hz; omega)), ?_⟩ (fun _ => by show H.size < H'.size; omega) (hL.keepN hn.keep).two (Nat.le_refl _) (hL.keepN hn.keep)
  rw [rws_one]
  have := hn.blk.cels 0 9 (by simp [encC])
  exact this
/-- two cells, laid in a new row -/
theorem Sit.pair {W : Nat → Prop} {H H' : Heap} {y y' : Cel × Value × Value} {c c' : Cel} (hn : New H H' (encC y ++ encC y')) (hy : CelR W H y c) (hy' : CelR W H y' c') (hW : ∀ z, W z → z < H.size) (hc : SmallOne c) (hm : NumC c) (hc' : SmallOne c') (hm' : NumC c') (hL : Laid H) : Sit H'.size H' (.slice (some ⟨H.size, 0, Option.none⟩) 2 2) [c, c'] := by
  have hs := hn.size
  refine Sit.of (by simp) (fun d hd => by simp at hd; rcases hd with rfl | rfl <;> assumption) (fun d hd => by simp at hd; rcases hd with rfl | rfl <;> assumption) ⟨isSl_some (Nat.le_refl _) (by omega), [y, y'], (Al.one (hy.step hn.keep (fun _ _ h => h) (fun z hz => by have := hW z hz; omega))).append (Al.one (hy'.step hn.keep (fun _ _ h => h) (fun z hz => by have := hW z hz; omega))), ?_⟩ (fun _ => by show H.size < H'.size; omega) (hL.keepN hn.keep).two (Nat.le_refl _) (hL.keepN hn.keep)
  have := hn.blk.cels 0 18 (by simp [encC])
  rw [rws_cons, rws_one]
  exact this

/-- the leaf that wakes a program -/
def aCel : Cel := { kind := 1, count := 1, val := 5, key := [97] }
theorem aCel_small : SmallOne aCel := ⟨by decide, by decide, fun p hp => by cases hp⟩
theorem aCel_num : NumC aCel := ⟨by decide, by decide, by decide⟩
theorem aCel_leaf : Leaf aCel 1 := ⟨rfl, rfl, rfl, rfl, rfl, rfl, rfl, by decide⟩
theorem a1 : rdAll 1 [aCel] = some ⟨[([97], 5)], 1, 1⟩ := by
  rw [rdAll_in (by decide) (by simp)]
  have : rdIn 1 [aCel] = some ⟨[([97], 5)], 1, 1⟩ := by
    unfold rdIn
    rw [if_pos rfl, rdC_some (c := aCel) rfl, if_pos aCel_leaf]
    rfl
  rw [this]
  rfl
theorem a3 : rdAll 3 [aCel] = none := by
  rw [rdAll_in (by decide) (by simp)]
  have : rdIn 3 [aCel] = none := by
    unfold rdIn
    rw [if_neg (by decide), if_neg (by decide), if_pos rfl, rdR_some (c := aCel) rfl]
    rw [if_pos ⟨rfl, by decide⟩, if_neg (fun h => by have := h.kind; cases this), if_neg (fun h => by
      have := h.band
      rcases this with h | h | h | h <;> (have := h.1; cases this))]
  rw [this]
theorem an1 : rdAll 1 [] = some {} := by unfold rdAll; rw [if_neg (by decide), if_pos rfl]
theorem an9 : rdAll 9 [] = none := by unfold rdAll; rw [if_pos (by decide)]

theorem awake11 {H : Heap} (hL : Laid H) : Ret Tryd.prog 9 [] H (fun r H' => Keep Non H H' ∧ r = .bool true) := by
  refine ret_of Tryd.func9 rfl rfl rfl rfl ?_
  intro w0
  refine zrun ?_ ?_
  refine x_buildSlice rfl rfl rfl rfl (by omega) (by simp [oneC, Value.oneCell']) rfl trivial ?_
  intro H1a hn1
  refine ⟨trivial, ?_⟩
  refine zrun ?_ ?_
  refine x_mark (l := bvs [97]) rfl rfl hn1.raw rfl trivial ?_
  intro H1 hB1 hK1 hs1
  refine ⟨trivial, ?_⟩
  have hb1 : Bs H1 (.slice (some ⟨H.size, 0, none⟩) 1 1) [97] := konst_bs hB1 (by decide)
  have hk1 := keep_at hn1.keep hK1 (Nat.le_refl _)
  have hs01 : H1.size = H.size + 1 := by have := hn1.size; omega
  obtain ⟨ya, hya⟩ : ∃ ya : Cel × Value × Value, ya = (aCel, .slice (some ⟨H.size, 0, none⟩) 1 1, .slice none 0 0) := ⟨_, rfl⟩
  have hy : CelR (fun z => z < H1.size) H1 ya aCel := by
    rw [hya]
    exact ⟨rfl, ⟨hb1, fun _ => by show H.size < H1.size; omega⟩, ⟨isSl_nil, [], Pk.nil _, Cels.nil _ _ _⟩, (fun h => absurd rfl h)⟩
  have hoy := CelR.oneC hy
  have hL1 := hL.keepN hk1
  refine zrun ?_ ?_
  refine x_build (cs := [.int .i64 1, .int .i64 0, .int .i64 1, .int .i64 0, .int .u8 0, .bool false, .int .u64 5, .slice (some ⟨H.size, 0, none⟩) 1 1, .slice none 0 0]) rfl rfl rfl (ocp_cons rfl (ocp_cons rfl (ocp_cons rfl (ocp_cons rfl ocp_nil)))) rfl trivial ?_
  rw [show ([.int .i64 1, .int .i64 0, .int .i64 1, .int .i64 0, .int .u8 0, .bool false, .int .u64 5, .slice (some ⟨H.size, 0, none⟩) 1 1, .slice none 0 0] : List Value) = encC ya from by rw [hya]; rfl]
  refine x_alloc rfl rfl trivial ?_
  intro H2 hn2
  refine ⟨trivial, ?_⟩
  have hs2 := hn2.size
  refine x_stores rfl rfl rfl rfl hoy hn2.blk (by simp [encC]) trivial ?_
  intro H3 hB3 hk3 hs3
  refine ⟨trivial, ?_⟩
  have hB3 : Blk H3 H1.size (encC ya) := hB3
  have hk13 : Keep Non H1 H3 := keep_at hn2.keep hk3 (Nat.le_refl _)
  have hy3 := hy.step (W' := fun z => z < H1.size) hk13 (fun _ _ h => h) (fun _ h => h)
  have hL3 := hL1.keepN hk13
  refine zrun ?_ ?_
  refine x_loads (cs := encC ya) rfl rfl rfl (hpmt (hB3.cels 0 9 (by simp [encC]))) rfl trivial ?_
  refine zrun ?_ ?_
  refine x_buildSliceS1 (by rfl) rfl rfl (by omega) (by rfl) rfl trivial ?_
  intro H4 hn4
  refine ⟨trivial, ?_⟩
  have hS4 := Sit.one hn4 hy3 (fun z hz => by omega) aCel_small aCel_num hL3
  have hs4 := hn4.size
  refine zrun ?_ ?_
  refine x_call rfl rfl rfl trivial (shpPairs (tag := 1) hS4) ?_
  rintro v5 H5 ⟨hk5, hV5⟩
  rw [a1] at hV5
  refine ⟨trivial, ?_⟩
  have hk35 := hn4.keep.non_trans hk5
  have hL5 := hL3.keepN hk35
  obtain ⟨k0, z1, z2, z3⟩ := hV5.ps.at_ 0 ([97], 5) rfl
  have sV5 : IsSl v5 1 := hV5.ps.sl
  refine zrun ?_ ?_
  refine x_call rfl rfl rfl trivial (shpSound (tag := 1) (Sit.none hL5)) ?_
  rintro _ H6 ⟨hk6, rfl⟩
  rw [an1]
  refine ⟨trivial, ?_⟩
  have hL6 := hL5.keepN hk6
  have hk36 := hk35.non_trans hk6
  have hB6 := hB3.keep hk36 (fun h => h)
  refine zrun ?_ ?_
  refine x_loads (cs := encC ya) rfl rfl rfl (hpmt (hB6.cels 0 9 (by simp [encC]))) rfl trivial ?_
  refine zrun ?_ ?_
  refine x_buildSliceS1 (by rfl) rfl rfl (by omega) (by rfl) rfl trivial ?_
  intro H7 hn7
  refine ⟨trivial, ?_⟩
  have hs36 := hk36.size
  have hS7 := Sit.one hn7 (hy3.step (W' := fun z => z < H1.size) hk36 (fun _ _ h => h) (fun _ h => h)) (fun z hz => by omega) aCel_small aCel_num hL6
  refine zrun ?_ ?_
  refine x_call rfl rfl rfl trivial (shpSound (tag := 1) hS7) ?_
  rintro _ H8 ⟨hk8, rfl⟩
  rw [a1]
  refine ⟨trivial, ?_⟩
  have hk38 := (hk36.non_trans hn7.keep).non_trans hk8
  have hL8 := hL3.keepN hk38
  have hs38 := hk38.size
  refine zrun ?_ ?_
  refine x_loads (cs := encC ya) rfl rfl rfl (hpmt ((hB3.keep hk38 (fun h => h)).cels 0 9 (by simp [encC]))) rfl trivial ?_
  refine zrun ?_ ?_
  refine x_buildSliceS1 (by rfl) rfl rfl (by omega) (by rfl) rfl trivial ?_
  intro H9 hn9
  refine ⟨trivial, ?_⟩
  have hS9 := Sit.one hn9 (hy3.step (W' := fun z => z < H1.size) hk38 (fun _ _ h => h) (fun _ h => h)) (fun z hz => by omega) aCel_small aCel_num hL8
  refine zrun ?_ ?_
  refine x_call rfl rfl rfl trivial (shpSound (tag := 3) hS9) ?_
  rintro _ H10 ⟨hk10, rfl⟩
  rw [a3]
  refine ⟨trivial, ?_⟩
  have hk310 := (hk38.non_trans hn9.keep).non_trans hk10
  have hL10 := hL3.keepN hk310
  have hs310 := hk310.size
  have hk510 : Keep Non H5 H10 := (((hk6.non_trans hn7.keep).non_trans hk8).non_trans hn9.keep).non_trans hk10
  refine zrun ?_ ?_
  refine x_load rfl rfl (hpmt (hk510.cel z2 (fun h => h))) rfl trivial ?_
  refine zrun ?_ ?_
  refine x_loads (cs := encC ya) rfl rfl rfl (hpmt ((hB3.keep hk310 (fun h => h)).cels 0 9 (by simp [encC]))) rfl trivial ?_
  refine zrun ?_ ?_
  refine x_buildSliceS1 (by rfl) rfl rfl (by omega) (by rfl) rfl trivial ?_
  intro H11 hn11
  refine ⟨trivial, ?_⟩
  have hS11 := Sit.one hn11 (hy3.step (W' := fun z => z < H1.size) hk310 (fun _ _ h => h) (fun _ h => h)) (fun z hz => by omega) aCel_small aCel_num hL10
  refine zrun ?_ ?_
  refine x_call rfl rfl rfl trivial (shpDeep (tag := 1) hS11) ?_
  rintro _ H12 ⟨hk12, rfl⟩
  rw [a1]
  refine ⟨trivial, ?_⟩
  have hk312 := (hk310.non_trans hn11.keep).non_trans hk12
  have hL12 := hL3.keepN hk312
  refine zrun ?_ ?_
  refine x_call rfl rfl rfl trivial (shpSound (tag := 9) (Sit.none hL12)) ?_
  rintro _ H13 ⟨hk13', rfl⟩
  rw [an9]
  refine ⟨trivial, ?_⟩
  refine zrun ?_ ?_
  exact cw_ret1 rfl rfl ⟨(hk1.non_trans hk13).non_trans (hk312.non_trans hk13'), rfl⟩

theorem walk_ShapeTells {tag : Int} {l : List Cel} {vc : Value} {H : Heap} (hC : CR H.size H vc l) (hv : l ≠ [] → sb vc < H.size) (hn : ∀ c ∈ l, NumC c) (hL : Laid H) : Ret Tryd.prog 3 [.int .i64 tag, vc] H (fun r H' => Keep Non H H' ∧ r = .bool true) := by
  refine ret_of Tryd.func3 rfl rfl rfl rfl ?_
  intro w0
  refine zrun ?_ ?_
  refine x_call rfl rfl rfl trivial (law_great hC) ?_
  rintro _ _ ⟨rfl, b, rfl, hb⟩
  refine ⟨trivial, ?_⟩
  cases b with
  | true =>
    refine zrun ?_ ?_
    refine x_call rfl rfl rfl trivial (awake11 hL) ?_
    rintro _ H1 ⟨hk1, rfl⟩
    refine ⟨trivial, ?_⟩
    refine zrun ?_ ?_
    exact cw_ret1 rfl rfl ⟨hk1, rfl⟩
  | false =>
    obtain ⟨hl, hs⟩ := hb rfl
    have hS : Sit H.size H vc l := Sit.of (by omega) hs hn hC hv hL.two (Nat.le_refl _) hL
    have hsh := rdAll_short (tag := tag) hS.ok
    have hm := manys_small hs
    refine zrun ?_ ?_
    refine x_call rfl rfl rfl trivial (law_same (tag := tag) hS (fun p hp => by have := hsh.1 p hp; omega) (by have := hsh.2; omega)) ?_
    rintro _ H1 ⟨hk1, rfl⟩
    refine ⟨trivial, ?_⟩
    refine zrun ?_ ?_
    refine x_call rfl rfl rfl trivial (awake11 (hL.keepN hk1)) ?_
    rintro _ H2 ⟨hk2, rfl⟩
    refine ⟨trivial, ?_⟩
    refine zrun ?_ ?_
    exact cw_ret1 rfl rfl ⟨hk1.non_trans hk2, rfl⟩
end Go.Proofs.YtkdmcbacofafpaaDoor.X
