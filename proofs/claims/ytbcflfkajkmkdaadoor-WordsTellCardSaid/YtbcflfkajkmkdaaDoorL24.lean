/- Chapter 24, the laws: awake. -/
import Derived.Test.YtbcflfkajkmkdaaDoorSm
import Derived.Test.YtbcflfkajkmkdaaDoorLow
namespace Go.Proofs.YtbcflfkajkmkdaaDoor.X
open Go Go.Proofs Go.RowKit
set_option linter.unusedVariables false
set_option linter.unusedSimpArgs false
set_option maxRecDepth 10000
set_option maxHeartbeats 16000000

def o1 : Opn := { kind := 3, slot := 1, key := [97], val := 5 }
def s1 : Bytes := [112, 117, 116, 32, 115, 108, 111, 116, 61, 49, 32, 107, 101, 121, 61, 54, 49, 32, 118, 97, 108, 61, 53]
def s2 : Bytes := [112, 117, 116, 32, 107, 101, 121, 61, 54, 49, 32, 115, 108, 111, 116, 61, 49]
def o2 : Opn := { kind := 3, slot := 1, key := [97] }
def o3 : Opn := { kind := 4, slot := 2, key := [97] }
def s3 : Bytes := [103, 101, 116, 32, 115, 108, 111, 116, 61, 50, 32, 107, 101, 121, 61, 54, 49]
theorem itoa_one : Lib.itoa 1 = [49] ∧ Lib.itoa 2 = [50] ∧ Lib.decDigits 5 = [53] := by
  refine ⟨?_, ?_, ?_⟩
  · show Lib.decDigits 1 = _
    rw [Lib.decDigits_one (by omega)]
    rfl
  · show Lib.decDigits 2 = _
    rw [Lib.decDigits_one (by omega)]
    rfl
  · rw [Lib.decDigits_one (by omega)]
    rfl
theorem say_o1 : sayO o1 = s1 := by
  show nameOf 3 ++ joinS ([nSlot ++ 61 :: Lib.itoa 1] ++ ([nKey ++ 61 :: hexB [97]] ++ ([nVal ++ 61 :: Lib.decDigits 5] ++ []))) = s1
  rw [itoa_one.1, itoa_one.2.2]
  decide +kernel
theorem say_o2 : sayO o2 ≠ s2 := by
  show ¬ nameOf 3 ++ joinS ([nSlot ++ 61 :: Lib.itoa 1] ++ ([nKey ++ 61 :: hexB [97]] ++ ([] ++ []))) = s2
  rw [itoa_one.1]
  decide +kernel
theorem say_o3 : sayO o3 = s3 := by
  show nameOf 4 ++ joinS ([nSlot ++ 61 :: Lib.itoa 2] ++ ([nKey ++ 61 :: hexB [97]] ++ ([] ++ []))) = s3
  rw [itoa_one.2.1]
  decide +kernel
theorem ok_o1 : OpOk o1 := by
  refine ⟨?_, ?_, ?_, ?_, ?_, ?_, ?_, fun p hp => by cases hp⟩ <;> constructor <;> decide
theorem ok_o3 : OpOk o3 := by
  refine ⟨?_, ?_, ?_, ?_, ?_, ?_, ?_, fun p hp => by cases hp⟩ <;> constructor <;> decide
theorem read_s1 : readG rdrW s1 = some o1 := by
  rw [← say_o1]
  exact read_say rdrW_ok ok_o1 (by decide) (by decide)
theorem fold_s2 : foldG rdrW s2 = o2 := by decide +kernel
theorem read_s2 : readG rdrW s2 = none := by
  unfold readG
  rw [fold_s2, if_pos (.inr say_o2)]
theorem good_small {o : Opn} (h1 : o.key.length ≤ 60) (h2 : o.to = []) (h3 : o.data = []) (h4 : o.pairs = []) : OpSm o := ⟨by omega, by rw [h2]; simp, by rw [h3]; simp, by rw [h4]; simp, by rw [h4]; intro p hp; cases hp⟩
theorem opv_zero (H : Heap) (k : Int) : OpV H (.slice none 0 0) (.slice none 0 0) (.slice none 0 0) (.slice none 0 0) { kind := k } := ⟨Bs.nil H, Bs.nil H, Bs.nil H, Ps.nil H⟩

theorem law_awake {H : Heap} (hL : Laid24 H) : Ret Tryd.prog 7 [] H (fun r H' => Keep Non H H' ∧ r = .bool true) := by
  refine ret_of Tryd.func7 rfl rfl rfl rfl ?_
  intro w0
  refine zrun ?_ ?_
  refine x_call (vs := [strV s1]) rfl rfl rfl trivial (law_Read (by decide) hL) ?_
  rintro _ H1 ⟨hk1, b1, S1, vk, vt, vd, vp, o, c, rfl, hO1, hr⟩
  rw [read_s1] at hr
  obtain ⟨rfl, rfl⟩ : o1 = o ∧ c = 0 := by
    rcases hr with ⟨h1, h2⟩ | ⟨h1, _⟩
    · exact ⟨Option.some.inj h1, h2⟩
    · cases h1
  clear hr
  refine ⟨trivial, ?_⟩
  refine zrun ?_ ?_
  refine x_alloc (zs := zeroOp) rfl rfl trivial ?_
  intro H2 hn2
  refine ⟨trivial, ?_⟩
  refine zrun ?_ ?_
  refine x_stores (cs := opCells o1 vk vt vd vp) rfl rfl rfl rfl hO1.one hn2.blk (by simp [opCells]) trivial ?_
  intro H3 hB3 hk3 hs3
  refine ⟨trivial, ?_⟩
  have hB3 : Blk H3 H1.size (opCells o1 vk vt vd vp) := hB3
  have hk13 : Keep Non H1 H3 := keep_at hn2.keep hk3 (Nat.le_refl _)
  have hk03 := hk1.non_trans hk13
  refine zrun ?_ ?_
  refine x_call (vs := [strV s2]) rfl rfl rfl trivial (law_Read (by decide) (hL.keepN hk03)) ?_
  rintro _ H4 ⟨hk4, b4, S4, wk, wt, wd, wp, o, c, rfl, hO4, hr⟩
  rw [read_s2] at hr
  obtain ⟨rfl, rfl⟩ : o = {} ∧ c = 6 := by
    rcases hr with ⟨h1, h2⟩ | ⟨_, h1, h2⟩
    · cases h1
    · exact ⟨h1, h2⟩
  clear hr
  refine ⟨trivial, ?_⟩
  refine zrun ?_ ?_
  refine x_alloc (zs := zeroOp) rfl rfl trivial ?_
  intro H5 hn5
  refine ⟨trivial, ?_⟩
  refine zrun ?_ ?_
  refine x_stores (cs := opCells {} wk wt wd wp) rfl rfl rfl rfl hO4.one hn5.blk (by simp [opCells]) trivial ?_
  intro H6 hB6 hk6 hs6
  refine ⟨trivial, ?_⟩
  have hk46 : Keep Non H4 H6 := keep_at hn5.keep hk6 (Nat.le_refl _)
  have hk36 := hk4.non_trans hk46
  have hk06 := hk03.non_trans hk36
  have hB36 := hB3.keep hk36 (fun h => h)
  have hV1 := hO1.opv.keepN (hk13.non_trans hk36)
  refine zrun ?_ ?_
  refine x_buildSlice (vs := bvs [97]) rfl rfl rfl rfl (by omega) (bvs_oneC _) rfl trivial ?_
  intro H7 hn7
  refine ⟨trivial, ?_⟩
  refine zrun ?_ ?_
  refine x_mark (l := bvs [97]) rfl rfl hn7.raw rfl trivial ?_
  intro H8 hB8 hk8 hs8
  refine ⟨trivial, ?_⟩
  have hb8 : Bs H8 (.slice (some ⟨H6.size, 0, none⟩) 1 1) [97] := konst_bs hB8 (by decide)
  have hk68 : Keep Non H6 H8 := keep_at hn7.keep hk8 (Nat.le_refl _)
  have hk08 := hk06.non_trans hk68
  refine zrun ?_ ?_
  refine x_build (cs := opCells o3 (.slice (some ⟨H6.size, 0, none⟩) 1 1) (.slice none 0 0) (.slice none 0 0) (.slice none 0 0)) rfl rfl rfl (by simp [oneC, Value.oneCell']) rfl trivial ?_
  refine zrun ?_ ?_
  refine x_call rfl rfl rfl trivial (law_Say (o := o3) ⟨hb8, Bs.nil _, Bs.nil _, Ps.nil _⟩ ok_o3 (good_small (by decide) rfl rfl rfl) ⟨by decide, by decide⟩ (hL.keepN hk08)) ?_
  rintro _ H9 ⟨hk9, rfl⟩
  refine ⟨trivial, ?_⟩
  have hk09 := hk08.non_trans hk9
  have hB9 := (hB36.keep hk68 (fun h => h)).keep hk9 (fun h => h)
  have hV9 := (hV1.keepN hk68).keepN hk9
  have q10 : cel H9 H1.size 10 = some (.int .u64 5) := by rw [hB9.cel]; rfl
  rw [say_o3]
  refine zrun ?_ ?_
  refine x_seqL (b := s3) rfl rfl rfl rfl trivial ?_
  rw [decide_eq_true rfl]
  refine zrun ?_ ?_
  rw [show (((0 : Int)) == 0) = true from rfl]
  refine zrun ?_ ?_
  refine x_load rfl rfl (hpmt (q10)) rfl trivial ?_
  refine zrun ?_ ?_
  rw [show (((5 : Int)) == 5) = true from rfl]
  refine zrun ?_ ?_
  rw [show (((6 : Int)) == 6) = true from rfl]
  refine zrun ?_ ?_
  refine x_loads (cs := opCells o1 vk vt vd vp) rfl rfl rfl (hpmt (hB9.cels 0 12 (by simp [opCells]))) rfl trivial ?_
  refine zrun ?_ ?_
  refine x_loads (cs := opCells o1 vk vt vd vp) rfl rfl rfl (hpmt (hB9.cels 0 12 (by simp [opCells]))) rfl trivial ?_
  refine zrun ?_ ?_
  refine x_call rfl rfl rfl trivial (law_Same hV9 hV9) ?_
  rintro _ Ha ⟨hka, rfl⟩
  refine ⟨trivial, ?_⟩
  rw [decide_eq_true rfl]
  refine zrun ?_ ?_
  refine x_build (cs := zeroOp) rfl rfl rfl (by simp) rfl trivial ?_
  refine zrun ?_ ?_
  refine x_call rfl rfl rfl trivial (law_Say (opv_zero _ 0) (OpOk.zero 0) (good_small (by decide) rfl rfl rfl) ⟨by decide, by decide⟩ ((hL.keepN hk09).keepN hka)) ?_
  rintro _ Hb ⟨hkb, rfl⟩
  refine ⟨trivial, ?_⟩
  refine zrun ?_ ?_
  refine x_seqL (b := []) rfl rfl rfl rfl trivial ?_
  rw [decide_eq_true (show sayO { kind := 0 } = [] from rfl)]
  refine zrun ?_ ?_
  exact cw_ret1 rfl rfl ⟨(hk09.non_trans hka).non_trans hkb, rfl⟩
end Go.Proofs.YtbcflfkajkmkdaaDoor.X
