/- The statements on merge: the walks. -/
import Derived.Test.YtghdmamchbecjaaMrg2
import Derived.Test.YtghdmamchbecjaaKmrg2
import Derived.Test.YtghdmamchbecjaaLow
namespace Go.Proofs.Ytghdmamchbecjaa.X
open Go Go.Proofs
set_option linter.unusedVariables false
set_option maxRecDepth 10000
set_option maxHeartbeats 2000000

theorem awake19 (H : Heap) : Ret Try.prog 7 [] H (Yes H) := by
  refine ret_of Try.func7 rfl rfl rfl rfl ?_
  intro w0
  repeat (first
    | refine x_move rfl rfl rfl trivial ?_
    | refine x_assign rfl rfl rfl trivial ?_
    | refine x_add rfl rfl rfl (wrap_i64 (by omega) (by omega)) rfl trivial ?_
    | refine x_sub_ rfl rfl rfl (wrap_i64 (by omega) (by omega)) rfl trivial ?_
    | refine x_mul rfl rfl rfl (wrap_i64 (by omega) (by omega)) rfl trivial ?_
    | refine x_ibin rfl rfl rfl rfl rfl trivial ?_
    | refine x_neg_ rfl rfl (wrap_i64 (by omega) (by omega)) rfl trivial ?_
    | refine x_len rfl rfl (by assumption) rfl trivial ?_
    | refine x_pick_t rfl rfl rfl rfl trivial ?_
    | refine x_pick_f rfl rfl rfl rfl trivial ?_
    | refine x_not rfl rfl rfl trivial ?_
    | refine x_beq rfl rfl rfl rfl trivial ?_
    | refine x_bne rfl rfl rfl rfl trivial ?_
    | refine x_extract rfl rfl rfl rfl trivial ?_
    | refine x_nilCheck rfl rfl rfl trivial ?_
    | refine x_fieldAddr rfl rfl rfl rfl trivial ?_
    | refine x_skip trivial rfl rfl rfl ?_
    | refine x_indexAddr1 rfl rfl rfl (by assumption) (by omega) (by omega) rfl trivial ?_
    | refine x_indexAddr rfl rfl rfl (by assumption) (by omega) (by omega) rfl trivial ?_
    | refine x_nil ?_
    | refine cw_seq ?_
    | refine nw_seq ?_
    | refine nw_block ?_
    | refine cw_block ?_
    | refine cw_skip ?_
    | refine cw_region ?_
    | refine cw_exit rfl ?_
    | refine cw_true rfl ?_
    | refine cw_false rfl ?_)
  refine x_buildSlice rfl rfl rfl rfl (by omega) (by simp [oneC, Value.oneCell']) rfl trivial ?_
  intro H1a hn1
  refine ⟨trivial, ?_⟩
  repeat (first
    | refine x_move rfl rfl rfl trivial ?_
    | refine x_assign rfl rfl rfl trivial ?_
    | refine x_add rfl rfl rfl (wrap_i64 (by omega) (by omega)) rfl trivial ?_
    | refine x_sub_ rfl rfl rfl (wrap_i64 (by omega) (by omega)) rfl trivial ?_
    | refine x_mul rfl rfl rfl (wrap_i64 (by omega) (by omega)) rfl trivial ?_
    | refine x_ibin rfl rfl rfl rfl rfl trivial ?_
    | refine x_neg_ rfl rfl (wrap_i64 (by omega) (by omega)) rfl trivial ?_
    | refine x_len rfl rfl (by assumption) rfl trivial ?_
    | refine x_pick_t rfl rfl rfl rfl trivial ?_
    | refine x_pick_f rfl rfl rfl rfl trivial ?_
    | refine x_not rfl rfl rfl trivial ?_
    | refine x_beq rfl rfl rfl rfl trivial ?_
    | refine x_bne rfl rfl rfl rfl trivial ?_
    | refine x_extract rfl rfl rfl rfl trivial ?_
    | refine x_nilCheck rfl rfl rfl trivial ?_
    | refine x_fieldAddr rfl rfl rfl rfl trivial ?_
    | refine x_skip trivial rfl rfl rfl ?_
    | refine x_indexAddr1 rfl rfl rfl (by assumption) (by omega) (by omega) rfl trivial ?_
    | refine x_indexAddr rfl rfl rfl (by assumption) (by omega) (by omega) rfl trivial ?_
    | refine x_nil ?_
    | refine cw_seq ?_
    | refine nw_seq ?_
    | refine nw_block ?_
    | refine cw_block ?_
    | refine cw_skip ?_
    | refine cw_region ?_
    | refine cw_exit rfl ?_
    | refine cw_true rfl ?_
    | refine cw_false rfl ?_)
  refine x_mark (l := bvs [97]) rfl rfl hn1.raw rfl trivial ?_
  intro H1 hB1 hK1 hs1
  refine ⟨trivial, ?_⟩
  have hb1 := konst_bs hB1 (by decide)
  have hk1 := keep_at hn1.keep hK1 (Nat.le_refl _)
  refine x_build (cs := [.slice (some ⟨H.size, 0, none⟩) 1 1, .int .u64 1]) rfl rfl rfl (two_oneC rfl) rfl trivial ?_
  repeat (first
    | refine x_move rfl rfl rfl trivial ?_
    | refine x_assign rfl rfl rfl trivial ?_
    | refine x_add rfl rfl rfl (wrap_i64 (by omega) (by omega)) rfl trivial ?_
    | refine x_sub_ rfl rfl rfl (wrap_i64 (by omega) (by omega)) rfl trivial ?_
    | refine x_mul rfl rfl rfl (wrap_i64 (by omega) (by omega)) rfl trivial ?_
    | refine x_ibin rfl rfl rfl rfl rfl trivial ?_
    | refine x_neg_ rfl rfl (wrap_i64 (by omega) (by omega)) rfl trivial ?_
    | refine x_len rfl rfl (by assumption) rfl trivial ?_
    | refine x_pick_t rfl rfl rfl rfl trivial ?_
    | refine x_pick_f rfl rfl rfl rfl trivial ?_
    | refine x_not rfl rfl rfl trivial ?_
    | refine x_beq rfl rfl rfl rfl trivial ?_
    | refine x_bne rfl rfl rfl rfl trivial ?_
    | refine x_extract rfl rfl rfl rfl trivial ?_
    | refine x_nilCheck rfl rfl rfl trivial ?_
    | refine x_fieldAddr rfl rfl rfl rfl trivial ?_
    | refine x_skip trivial rfl rfl rfl ?_
    | refine x_indexAddr1 rfl rfl rfl (by assumption) (by omega) (by omega) rfl trivial ?_
    | refine x_indexAddr rfl rfl rfl (by assumption) (by omega) (by omega) rfl trivial ?_
    | refine x_nil ?_
    | refine cw_seq ?_
    | refine nw_seq ?_
    | refine nw_block ?_
    | refine cw_block ?_
    | refine cw_skip ?_
    | refine cw_region ?_
    | refine cw_exit rfl ?_
    | refine cw_true rfl ?_
    | refine cw_false rfl ?_)
  refine x_buildSlice rfl rfl rfl rfl (by omega) (by simp [oneC, Value.oneCell']) rfl trivial ?_
  intro H2a hn2
  refine ⟨trivial, ?_⟩
  repeat (first
    | refine x_move rfl rfl rfl trivial ?_
    | refine x_assign rfl rfl rfl trivial ?_
    | refine x_add rfl rfl rfl (wrap_i64 (by omega) (by omega)) rfl trivial ?_
    | refine x_sub_ rfl rfl rfl (wrap_i64 (by omega) (by omega)) rfl trivial ?_
    | refine x_mul rfl rfl rfl (wrap_i64 (by omega) (by omega)) rfl trivial ?_
    | refine x_ibin rfl rfl rfl rfl rfl trivial ?_
    | refine x_neg_ rfl rfl (wrap_i64 (by omega) (by omega)) rfl trivial ?_
    | refine x_len rfl rfl (by assumption) rfl trivial ?_
    | refine x_pick_t rfl rfl rfl rfl trivial ?_
    | refine x_pick_f rfl rfl rfl rfl trivial ?_
    | refine x_not rfl rfl rfl trivial ?_
    | refine x_beq rfl rfl rfl rfl trivial ?_
    | refine x_bne rfl rfl rfl rfl trivial ?_
    | refine x_extract rfl rfl rfl rfl trivial ?_
    | refine x_nilCheck rfl rfl rfl trivial ?_
    | refine x_fieldAddr rfl rfl rfl rfl trivial ?_
    | refine x_skip trivial rfl rfl rfl ?_
    | refine x_indexAddr1 rfl rfl rfl (by assumption) (by omega) (by omega) rfl trivial ?_
    | refine x_indexAddr rfl rfl rfl (by assumption) (by omega) (by omega) rfl trivial ?_
    | refine x_nil ?_
    | refine cw_seq ?_
    | refine nw_seq ?_
    | refine nw_block ?_
    | refine cw_block ?_
    | refine cw_skip ?_
    | refine cw_region ?_
    | refine cw_exit rfl ?_
    | refine cw_true rfl ?_
    | refine cw_false rfl ?_)
  refine x_mark (l := bvs [98]) rfl rfl hn2.raw rfl trivial ?_
  intro H2 hB2 hK2 hs2
  refine ⟨trivial, ?_⟩
  have hb2 := konst_bs hB2 (by decide)
  have hk2 := keep_at hn2.keep hK2 (Nat.le_refl _)
  refine x_build (cs := [.slice (some ⟨H1.size, 0, none⟩) 1 1, .int .u64 2]) rfl rfl rfl (two_oneC rfl) rfl trivial ?_
  refine x_buildSliceS2 (by rfl) rfl rfl (by omega) (by rfl) (by rfl) rfl trivial ?_
  intro H3 hn3
  refine ⟨trivial, ?_⟩
  have hq3 := hn3.old (hk1.non_trans hk2)
  have hP3 : Ps H3 (.slice (some ⟨H2.size, 0, none⟩) 2 2) [([97], 1), ([98], 2)] := ps_of_new (q := [(.slice (some ⟨H.size, 0, none⟩) 1 1, 1), (.slice (some ⟨H1.size, 0, none⟩) 1 1, 2)]) hn3 (Pk.append (Pk.one (p := ([97], 1)) ((hb1.keepN hk2).keepN hn3.keep)) (Pk.one (p := ([98], 2)) (hb2.keepN hn3.keep))) (by decide)
  repeat (first
    | refine x_move rfl rfl rfl trivial ?_
    | refine x_assign rfl rfl rfl trivial ?_
    | refine x_add rfl rfl rfl (wrap_i64 (by omega) (by omega)) rfl trivial ?_
    | refine x_sub_ rfl rfl rfl (wrap_i64 (by omega) (by omega)) rfl trivial ?_
    | refine x_mul rfl rfl rfl (wrap_i64 (by omega) (by omega)) rfl trivial ?_
    | refine x_ibin rfl rfl rfl rfl rfl trivial ?_
    | refine x_neg_ rfl rfl (wrap_i64 (by omega) (by omega)) rfl trivial ?_
    | refine x_len rfl rfl (by assumption) rfl trivial ?_
    | refine x_pick_t rfl rfl rfl rfl trivial ?_
    | refine x_pick_f rfl rfl rfl rfl trivial ?_
    | refine x_not rfl rfl rfl trivial ?_
    | refine x_beq rfl rfl rfl rfl trivial ?_
    | refine x_bne rfl rfl rfl rfl trivial ?_
    | refine x_extract rfl rfl rfl rfl trivial ?_
    | refine x_nilCheck rfl rfl rfl trivial ?_
    | refine x_fieldAddr rfl rfl rfl rfl trivial ?_
    | refine x_skip trivial rfl rfl rfl ?_
    | refine x_indexAddr1 rfl rfl rfl (by assumption) (by omega) (by omega) rfl trivial ?_
    | refine x_indexAddr rfl rfl rfl (by assumption) (by omega) (by omega) rfl trivial ?_
    | refine x_nil ?_
    | refine cw_seq ?_
    | refine nw_seq ?_
    | refine nw_block ?_
    | refine cw_block ?_
    | refine cw_skip ?_
    | refine cw_region ?_
    | refine cw_exit rfl ?_
    | refine cw_true rfl ?_
    | refine cw_false rfl ?_)
  refine x_buildSlice rfl rfl rfl rfl (by omega) (by simp [oneC, Value.oneCell']) rfl trivial ?_
  intro H4a hn4
  refine ⟨trivial, ?_⟩
  repeat (first
    | refine x_move rfl rfl rfl trivial ?_
    | refine x_assign rfl rfl rfl trivial ?_
    | refine x_add rfl rfl rfl (wrap_i64 (by omega) (by omega)) rfl trivial ?_
    | refine x_sub_ rfl rfl rfl (wrap_i64 (by omega) (by omega)) rfl trivial ?_
    | refine x_mul rfl rfl rfl (wrap_i64 (by omega) (by omega)) rfl trivial ?_
    | refine x_ibin rfl rfl rfl rfl rfl trivial ?_
    | refine x_neg_ rfl rfl (wrap_i64 (by omega) (by omega)) rfl trivial ?_
    | refine x_len rfl rfl (by assumption) rfl trivial ?_
    | refine x_pick_t rfl rfl rfl rfl trivial ?_
    | refine x_pick_f rfl rfl rfl rfl trivial ?_
    | refine x_not rfl rfl rfl trivial ?_
    | refine x_beq rfl rfl rfl rfl trivial ?_
    | refine x_bne rfl rfl rfl rfl trivial ?_
    | refine x_extract rfl rfl rfl rfl trivial ?_
    | refine x_nilCheck rfl rfl rfl trivial ?_
    | refine x_fieldAddr rfl rfl rfl rfl trivial ?_
    | refine x_skip trivial rfl rfl rfl ?_
    | refine x_indexAddr1 rfl rfl rfl (by assumption) (by omega) (by omega) rfl trivial ?_
    | refine x_indexAddr rfl rfl rfl (by assumption) (by omega) (by omega) rfl trivial ?_
    | refine x_nil ?_
    | refine cw_seq ?_
    | refine nw_seq ?_
    | refine nw_block ?_
    | refine cw_block ?_
    | refine cw_skip ?_
    | refine cw_region ?_
    | refine cw_exit rfl ?_
    | refine cw_true rfl ?_
    | refine cw_false rfl ?_)
  refine x_mark (l := bvs [98]) rfl rfl hn4.raw rfl trivial ?_
  intro H4 hB4 hK4 hs4
  refine ⟨trivial, ?_⟩
  have hb4 := konst_bs hB4 (by decide)
  have hk4 := keep_at hn4.keep hK4 (Nat.le_refl _)
  refine x_build (cs := [.slice (some ⟨H3.size, 0, none⟩) 1 1, .int .u64 5]) rfl rfl rfl (two_oneC rfl) rfl trivial ?_
  refine x_buildSliceS1 (by rfl) rfl rfl (by omega) (by rfl) rfl trivial ?_
  intro H5 hn5
  refine ⟨trivial, ?_⟩
  have hq5 := hn5.old (hq3.non_trans hk4)
  have hP5 : Ps H5 (.slice (some ⟨H4.size, 0, none⟩) 1 1) [([98], 5)] := ps_of_new (q := [(.slice (some ⟨H3.size, 0, none⟩) 1 1, 5)]) hn5 (Pk.one (p := ([98], 5)) (hb4.keepN hn5.keep)) (by decide)
  have hA5 := (hP3.keepN hk4).keepN hn5.keep
  repeat (first
    | refine x_move rfl rfl rfl trivial ?_
    | refine x_assign rfl rfl rfl trivial ?_
    | refine x_add rfl rfl rfl (wrap_i64 (by omega) (by omega)) rfl trivial ?_
    | refine x_sub_ rfl rfl rfl (wrap_i64 (by omega) (by omega)) rfl trivial ?_
    | refine x_mul rfl rfl rfl (wrap_i64 (by omega) (by omega)) rfl trivial ?_
    | refine x_ibin rfl rfl rfl rfl rfl trivial ?_
    | refine x_neg_ rfl rfl (wrap_i64 (by omega) (by omega)) rfl trivial ?_
    | refine x_len rfl rfl (by assumption) rfl trivial ?_
    | refine x_pick_t rfl rfl rfl rfl trivial ?_
    | refine x_pick_f rfl rfl rfl rfl trivial ?_
    | refine x_not rfl rfl rfl trivial ?_
    | refine x_beq rfl rfl rfl rfl trivial ?_
    | refine x_bne rfl rfl rfl rfl trivial ?_
    | refine x_extract rfl rfl rfl rfl trivial ?_
    | refine x_nilCheck rfl rfl rfl trivial ?_
    | refine x_fieldAddr rfl rfl rfl rfl trivial ?_
    | refine x_skip trivial rfl rfl rfl ?_
    | refine x_indexAddr1 rfl rfl rfl (by assumption) (by omega) (by omega) rfl trivial ?_
    | refine x_indexAddr rfl rfl rfl (by assumption) (by omega) (by omega) rfl trivial ?_
    | refine x_nil ?_
    | refine cw_seq ?_
    | refine nw_seq ?_
    | refine nw_block ?_
    | refine cw_block ?_
    | refine cw_skip ?_
    | refine cw_region ?_
    | refine cw_exit rfl ?_
    | refine cw_true rfl ?_
    | refine cw_false rfl ?_)
  have hmx : ∀ p ∈ ([([97], 1), ([98], 2)] : List Pr), p.1.length ≤ 1000000 := by simp
  have hmy : ∀ p ∈ ([([98], 5)] : List Pr), p.1.length ≤ 1000000 := by simp
  refine x_call rfl rfl rfl trivial (merge_Of (op := 2) (policy := 3) hA5 hP5 (by decide) (by decide) hmx hmy) ?_
  rintro _ H6 ⟨hk6, u, rfl, hu⟩
  refine ⟨trivial, ?_⟩
  have hm1 : mof 2 3 [([97], 1), ([98], 2)] [([98], 5)] = (some [([98], 7)], 0) := by
    simp [mof, rises, mrg_cons, mrg_nil_l, mrg_nil_r, cmp_cons, cmp_nil_l, mval]
    rfl
  rw [hm1] at hu ⊢
  have hP6 := hu.ps
  have s6 : IsSl u 1 := hP6.sl
  repeat (first
    | refine x_move rfl rfl rfl trivial ?_
    | refine x_assign rfl rfl rfl trivial ?_
    | refine x_add rfl rfl rfl (wrap_i64 (by omega) (by omega)) rfl trivial ?_
    | refine x_sub_ rfl rfl rfl (wrap_i64 (by omega) (by omega)) rfl trivial ?_
    | refine x_mul rfl rfl rfl (wrap_i64 (by omega) (by omega)) rfl trivial ?_
    | refine x_ibin rfl rfl rfl rfl rfl trivial ?_
    | refine x_neg_ rfl rfl (wrap_i64 (by omega) (by omega)) rfl trivial ?_
    | refine x_len rfl rfl (by assumption) rfl trivial ?_
    | refine x_pick_t rfl rfl rfl rfl trivial ?_
    | refine x_pick_f rfl rfl rfl rfl trivial ?_
    | refine x_not rfl rfl rfl trivial ?_
    | refine x_beq rfl rfl rfl rfl trivial ?_
    | refine x_bne rfl rfl rfl rfl trivial ?_
    | refine x_extract rfl rfl rfl rfl trivial ?_
    | refine x_nilCheck rfl rfl rfl trivial ?_
    | refine x_fieldAddr rfl rfl rfl rfl trivial ?_
    | refine x_skip trivial rfl rfl rfl ?_
    | refine x_indexAddr1 rfl rfl rfl (by assumption) (by omega) (by omega) rfl trivial ?_
    | refine x_indexAddr rfl rfl rfl (by assumption) (by omega) (by omega) rfl trivial ?_
    | refine x_nil ?_
    | refine cw_seq ?_
    | refine nw_seq ?_
    | refine nw_block ?_
    | refine cw_block ?_
    | refine cw_skip ?_
    | refine cw_region ?_
    | refine cw_exit rfl ?_
    | refine cw_true rfl ?_
    | refine cw_false rfl ?_)
  refine x_call rfl rfl rfl trivial (merge_Of (op := 3) (policy := 1) (hA5.keepN hk6) (hP5.keepN hk6) (by decide) (by decide) hmx hmy) ?_
  rintro _ H7 ⟨hk7, u', rfl, hu'⟩
  refine ⟨trivial, ?_⟩
  have hm2 : mof 3 1 [([97], 1), ([98], 2)] [([98], 5)] = (some [([97], 1)], 0) := by
    simp [mof, rises, mrg_cons, mrg_nil_l, mrg_nil_r, cmp_cons, cmp_nil_l, mval]
  rw [hm2] at hu' ⊢
  have hP7 := hu'.ps
  have s7 : IsSl u' 1 := hP7.sl
  repeat (first
    | refine x_move rfl rfl rfl trivial ?_
    | refine x_assign rfl rfl rfl trivial ?_
    | refine x_add rfl rfl rfl (wrap_i64 (by omega) (by omega)) rfl trivial ?_
    | refine x_sub_ rfl rfl rfl (wrap_i64 (by omega) (by omega)) rfl trivial ?_
    | refine x_mul rfl rfl rfl (wrap_i64 (by omega) (by omega)) rfl trivial ?_
    | refine x_ibin rfl rfl rfl rfl rfl trivial ?_
    | refine x_neg_ rfl rfl (wrap_i64 (by omega) (by omega)) rfl trivial ?_
    | refine x_len rfl rfl (by assumption) rfl trivial ?_
    | refine x_pick_t rfl rfl rfl rfl trivial ?_
    | refine x_pick_f rfl rfl rfl rfl trivial ?_
    | refine x_not rfl rfl rfl trivial ?_
    | refine x_beq rfl rfl rfl rfl trivial ?_
    | refine x_bne rfl rfl rfl rfl trivial ?_
    | refine x_extract rfl rfl rfl rfl trivial ?_
    | refine x_nilCheck rfl rfl rfl trivial ?_
    | refine x_fieldAddr rfl rfl rfl rfl trivial ?_
    | refine x_skip trivial rfl rfl rfl ?_
    | refine x_indexAddr1 rfl rfl rfl (by assumption) (by omega) (by omega) rfl trivial ?_
    | refine x_indexAddr rfl rfl rfl (by assumption) (by omega) (by omega) rfl trivial ?_
    | refine x_nil ?_
    | refine cw_seq ?_
    | refine nw_seq ?_
    | refine nw_block ?_
    | refine cw_block ?_
    | refine cw_skip ?_
    | refine cw_region ?_
    | refine cw_exit rfl ?_
    | refine cw_true rfl ?_
    | refine cw_false rfl ?_)
  refine x_call rfl rfl rfl trivial (merge_Of (op := 9) (policy := 1) ((hA5.keepN hk6).keepN hk7) ((hP5.keepN hk6).keepN hk7) (by decide) (by decide) hmx hmy) ?_
  rintro _ H8 ⟨hk8, u'', rfl, hu''⟩
  refine ⟨trivial, ?_⟩
  have hm3 : mof 9 1 [([97], 1), ([98], 2)] [([98], 5)] = (none, 2) := by simp [mof]
  rw [hm3]
  obtain ⟨k6, _, c6, _⟩ := ((hP6.keepN hk7).keepN hk8).at_ 0 _ rfl
  obtain ⟨k7, c7, _, b7⟩ := (hP7.keepN hk8).at_ 0 _ rfl
  repeat (first
    | refine x_move rfl rfl rfl trivial ?_
    | refine x_assign rfl rfl rfl trivial ?_
    | refine x_add rfl rfl rfl (wrap_i64 (by omega) (by omega)) rfl trivial ?_
    | refine x_sub_ rfl rfl rfl (wrap_i64 (by omega) (by omega)) rfl trivial ?_
    | refine x_mul rfl rfl rfl (wrap_i64 (by omega) (by omega)) rfl trivial ?_
    | refine x_ibin rfl rfl rfl rfl rfl trivial ?_
    | refine x_neg_ rfl rfl (wrap_i64 (by omega) (by omega)) rfl trivial ?_
    | refine x_len rfl rfl (by assumption) rfl trivial ?_
    | refine x_pick_t rfl rfl rfl rfl trivial ?_
    | refine x_pick_f rfl rfl rfl rfl trivial ?_
    | refine x_not rfl rfl rfl trivial ?_
    | refine x_beq rfl rfl rfl rfl trivial ?_
    | refine x_bne rfl rfl rfl rfl trivial ?_
    | refine x_extract rfl rfl rfl rfl trivial ?_
    | refine x_nilCheck rfl rfl rfl trivial ?_
    | refine x_fieldAddr rfl rfl rfl rfl trivial ?_
    | refine x_skip trivial rfl rfl rfl ?_
    | refine x_indexAddr1 rfl rfl rfl (by assumption) (by omega) (by omega) rfl trivial ?_
    | refine x_indexAddr rfl rfl rfl (by assumption) (by omega) (by omega) rfl trivial ?_
    | refine x_nil ?_
    | refine cw_seq ?_
    | refine nw_seq ?_
    | refine nw_block ?_
    | refine cw_block ?_
    | refine cw_skip ?_
    | refine cw_region ?_
    | refine cw_exit rfl ?_
    | refine cw_true rfl ?_
    | refine cw_false rfl ?_)
  refine x_load rfl rfl (hpmt (c6)) rfl trivial ?_
  repeat (first
    | refine x_move rfl rfl rfl trivial ?_
    | refine x_assign rfl rfl rfl trivial ?_
    | refine x_add rfl rfl rfl (wrap_i64 (by omega) (by omega)) rfl trivial ?_
    | refine x_sub_ rfl rfl rfl (wrap_i64 (by omega) (by omega)) rfl trivial ?_
    | refine x_mul rfl rfl rfl (wrap_i64 (by omega) (by omega)) rfl trivial ?_
    | refine x_ibin rfl rfl rfl rfl rfl trivial ?_
    | refine x_neg_ rfl rfl (wrap_i64 (by omega) (by omega)) rfl trivial ?_
    | refine x_len rfl rfl (by assumption) rfl trivial ?_
    | refine x_pick_t rfl rfl rfl rfl trivial ?_
    | refine x_pick_f rfl rfl rfl rfl trivial ?_
    | refine x_not rfl rfl rfl trivial ?_
    | refine x_beq rfl rfl rfl rfl trivial ?_
    | refine x_bne rfl rfl rfl rfl trivial ?_
    | refine x_extract rfl rfl rfl rfl trivial ?_
    | refine x_nilCheck rfl rfl rfl trivial ?_
    | refine x_fieldAddr rfl rfl rfl rfl trivial ?_
    | refine x_skip trivial rfl rfl rfl ?_
    | refine x_indexAddr1 rfl rfl rfl (by assumption) (by omega) (by omega) rfl trivial ?_
    | refine x_indexAddr rfl rfl rfl (by assumption) (by omega) (by omega) rfl trivial ?_
    | refine x_nil ?_
    | refine cw_seq ?_
    | refine nw_seq ?_
    | refine nw_block ?_
    | refine cw_block ?_
    | refine cw_skip ?_
    | refine cw_region ?_
    | refine cw_exit rfl ?_
    | refine cw_true rfl ?_
    | refine cw_false rfl ?_)
  refine x_load rfl rfl (hpmt (c7)) rfl trivial ?_
  refine x_tostr rfl rfl (hpmt b7) rfl trivial ?_
  refine x_seql rfl rfl rfl rfl trivial ?_
  rw [str_list]
  repeat (first
    | refine x_move rfl rfl rfl trivial ?_
    | refine x_assign rfl rfl rfl trivial ?_
    | refine x_add rfl rfl rfl (wrap_i64 (by omega) (by omega)) rfl trivial ?_
    | refine x_sub_ rfl rfl rfl (wrap_i64 (by omega) (by omega)) rfl trivial ?_
    | refine x_mul rfl rfl rfl (wrap_i64 (by omega) (by omega)) rfl trivial ?_
    | refine x_ibin rfl rfl rfl rfl rfl trivial ?_
    | refine x_neg_ rfl rfl (wrap_i64 (by omega) (by omega)) rfl trivial ?_
    | refine x_len rfl rfl (by assumption) rfl trivial ?_
    | refine x_pick_t rfl rfl rfl rfl trivial ?_
    | refine x_pick_f rfl rfl rfl rfl trivial ?_
    | refine x_not rfl rfl rfl trivial ?_
    | refine x_beq rfl rfl rfl rfl trivial ?_
    | refine x_bne rfl rfl rfl rfl trivial ?_
    | refine x_extract rfl rfl rfl rfl trivial ?_
    | refine x_nilCheck rfl rfl rfl trivial ?_
    | refine x_fieldAddr rfl rfl rfl rfl trivial ?_
    | refine x_skip trivial rfl rfl rfl ?_
    | refine x_indexAddr1 rfl rfl rfl (by assumption) (by omega) (by omega) rfl trivial ?_
    | refine x_indexAddr rfl rfl rfl (by assumption) (by omega) (by omega) rfl trivial ?_
    | refine x_nil ?_
    | refine cw_seq ?_
    | refine nw_seq ?_
    | refine nw_block ?_
    | refine cw_block ?_
    | refine cw_skip ?_
    | refine cw_region ?_
    | refine cw_exit rfl ?_
    | refine cw_true rfl ?_
    | refine cw_false rfl ?_)
  refine x_call rfl rfl rfl trivial (merge_Value 2 1 2 H8) ?_
  rintro _ _ ⟨rfl, rfl⟩
  refine ⟨trivial, ?_⟩
  repeat (first
    | refine x_move rfl rfl rfl trivial ?_
    | refine x_assign rfl rfl rfl trivial ?_
    | refine x_add rfl rfl rfl (wrap_i64 (by omega) (by omega)) rfl trivial ?_
    | refine x_sub_ rfl rfl rfl (wrap_i64 (by omega) (by omega)) rfl trivial ?_
    | refine x_mul rfl rfl rfl (wrap_i64 (by omega) (by omega)) rfl trivial ?_
    | refine x_ibin rfl rfl rfl rfl rfl trivial ?_
    | refine x_neg_ rfl rfl (wrap_i64 (by omega) (by omega)) rfl trivial ?_
    | refine x_len rfl rfl (by assumption) rfl trivial ?_
    | refine x_pick_t rfl rfl rfl rfl trivial ?_
    | refine x_pick_f rfl rfl rfl rfl trivial ?_
    | refine x_not rfl rfl rfl trivial ?_
    | refine x_beq rfl rfl rfl rfl trivial ?_
    | refine x_bne rfl rfl rfl rfl trivial ?_
    | refine x_extract rfl rfl rfl rfl trivial ?_
    | refine x_nilCheck rfl rfl rfl trivial ?_
    | refine x_fieldAddr rfl rfl rfl rfl trivial ?_
    | refine x_skip trivial rfl rfl rfl ?_
    | refine x_indexAddr1 rfl rfl rfl (by assumption) (by omega) (by omega) rfl trivial ?_
    | refine x_indexAddr rfl rfl rfl (by assumption) (by omega) (by omega) rfl trivial ?_
    | refine x_nil ?_
    | refine cw_seq ?_
    | refine nw_seq ?_
    | refine nw_block ?_
    | refine cw_block ?_
    | refine cw_skip ?_
    | refine cw_region ?_
    | refine cw_exit rfl ?_
    | refine cw_true rfl ?_
    | refine cw_false rfl ?_)
  exact cw_ret1 rfl rfl ⟨rfl, ((hq5.non_trans hk6).non_trans hk7).non_trans hk8⟩

theorem mof_length {op policy : Int} {a b : List Pr} {n : Nat} (h : a.length + b.length ≤ n) : ((mof op policy a b).1.getD []).length ≤ n := by
  unfold mof
  split
  · simp
  · split
    · simp
    · have := mrg_length op policy a b
      show (mrg op policy a b).length ≤ n
      omega
theorem mof_keys {op policy : Int} {a b : List Pr} {n : Nat} (ha : ∀ r ∈ a, r.1.length ≤ n) (hb : ∀ r ∈ b, r.1.length ≤ n) : ∀ r ∈ (mof op policy a b).1.getD [], r.1.length ≤ n := by
  unfold mof
  split
  · simp
  · split
    · simp
    · intro r hr
      rcases mrg_mem (show r ∈ mrg op policy a b from hr) with ⟨s, h1, h2⟩ | ⟨s, h1, h2⟩
      · rw [← h2]; exact ha s h1
      · rw [← h2]; exact hb s h1
theorem walk_MergeTells {op policy x y : Int} {va vb : Value} {la lb : List Pr} {H : Heap} (hA : Ps H va la) (hB : Ps H vb lb) :
    Ret Try.prog 3 [.int .i64 op, .int .i64 policy, va, vb, .int .u64 x, .int .u64 y] H (Yes H) := by
  refine ret_of Try.func3 rfl rfl rfl rfl ?_
  intro w0
  repeat (first
    | refine x_move rfl rfl rfl trivial ?_
    | refine x_assign rfl rfl rfl trivial ?_
    | refine x_add rfl rfl rfl (wrap_i64 (by omega) (by omega)) rfl trivial ?_
    | refine x_sub_ rfl rfl rfl (wrap_i64 (by omega) (by omega)) rfl trivial ?_
    | refine x_mul rfl rfl rfl (wrap_i64 (by omega) (by omega)) rfl trivial ?_
    | refine x_ibin rfl rfl rfl rfl rfl trivial ?_
    | refine x_neg_ rfl rfl (wrap_i64 (by omega) (by omega)) rfl trivial ?_
    | refine x_len rfl rfl (by assumption) rfl trivial ?_
    | refine x_pick_t rfl rfl rfl rfl trivial ?_
    | refine x_pick_f rfl rfl rfl rfl trivial ?_
    | refine x_not rfl rfl rfl trivial ?_
    | refine x_beq rfl rfl rfl rfl trivial ?_
    | refine x_bne rfl rfl rfl rfl trivial ?_
    | refine x_extract rfl rfl rfl rfl trivial ?_
    | refine x_nilCheck rfl rfl rfl trivial ?_
    | refine x_fieldAddr rfl rfl rfl rfl trivial ?_
    | refine x_skip trivial rfl rfl rfl ?_
    | refine x_indexAddr1 rfl rfl rfl (by assumption) (by omega) (by omega) rfl trivial ?_
    | refine x_indexAddr rfl rfl rfl (by assumption) (by omega) (by omega) rfl trivial ?_
    | refine x_nil ?_
    | refine cw_seq ?_
    | refine nw_seq ?_
    | refine nw_block ?_
    | refine cw_block ?_
    | refine cw_skip ?_
    | refine cw_region ?_
    | refine cw_exit rfl ?_
    | refine cw_true rfl ?_
    | refine cw_false rfl ?_)
  refine x_call rfl rfl rfl trivial (law_GreatPairs 40 20 (by omega) hA) ?_
  rintro _ _ ⟨rfl, b1, rfl, h1⟩
  refine ⟨trivial, ?_⟩
  repeat (first
    | refine x_move rfl rfl rfl trivial ?_
    | refine x_assign rfl rfl rfl trivial ?_
    | refine x_add rfl rfl rfl (wrap_i64 (by omega) (by omega)) rfl trivial ?_
    | refine x_sub_ rfl rfl rfl (wrap_i64 (by omega) (by omega)) rfl trivial ?_
    | refine x_mul rfl rfl rfl (wrap_i64 (by omega) (by omega)) rfl trivial ?_
    | refine x_ibin rfl rfl rfl rfl rfl trivial ?_
    | refine x_neg_ rfl rfl (wrap_i64 (by omega) (by omega)) rfl trivial ?_
    | refine x_len rfl rfl (by assumption) rfl trivial ?_
    | refine x_pick_t rfl rfl rfl rfl trivial ?_
    | refine x_pick_f rfl rfl rfl rfl trivial ?_
    | refine x_not rfl rfl rfl trivial ?_
    | refine x_beq rfl rfl rfl rfl trivial ?_
    | refine x_bne rfl rfl rfl rfl trivial ?_
    | refine x_extract rfl rfl rfl rfl trivial ?_
    | refine x_nilCheck rfl rfl rfl trivial ?_
    | refine x_fieldAddr rfl rfl rfl rfl trivial ?_
    | refine x_skip trivial rfl rfl rfl ?_
    | refine x_indexAddr1 rfl rfl rfl (by assumption) (by omega) (by omega) rfl trivial ?_
    | refine x_indexAddr rfl rfl rfl (by assumption) (by omega) (by omega) rfl trivial ?_
    | refine x_nil ?_
    | refine cw_seq ?_
    | refine nw_seq ?_
    | refine nw_block ?_
    | refine cw_block ?_
    | refine cw_skip ?_
    | refine cw_region ?_
    | refine cw_exit rfl ?_
    | refine cw_true rfl ?_
    | refine cw_false rfl ?_)
  cases b1 with
  | true =>
    repeat (first
      | refine x_move rfl rfl rfl trivial ?_
      | refine x_assign rfl rfl rfl trivial ?_
      | refine x_add rfl rfl rfl (wrap_i64 (by omega) (by omega)) rfl trivial ?_
      | refine x_sub_ rfl rfl rfl (wrap_i64 (by omega) (by omega)) rfl trivial ?_
      | refine x_mul rfl rfl rfl (wrap_i64 (by omega) (by omega)) rfl trivial ?_
      | refine x_ibin rfl rfl rfl rfl rfl trivial ?_
      | refine x_neg_ rfl rfl (wrap_i64 (by omega) (by omega)) rfl trivial ?_
      | refine x_len rfl rfl (by assumption) rfl trivial ?_
      | refine x_pick_t rfl rfl rfl rfl trivial ?_
      | refine x_pick_f rfl rfl rfl rfl trivial ?_
      | refine x_not rfl rfl rfl trivial ?_
      | refine x_beq rfl rfl rfl rfl trivial ?_
      | refine x_bne rfl rfl rfl rfl trivial ?_
      | refine x_extract rfl rfl rfl rfl trivial ?_
      | refine x_nilCheck rfl rfl rfl trivial ?_
      | refine x_fieldAddr rfl rfl rfl rfl trivial ?_
      | refine x_skip trivial rfl rfl rfl ?_
      | refine x_indexAddr1 rfl rfl rfl (by assumption) (by omega) (by omega) rfl trivial ?_
      | refine x_indexAddr rfl rfl rfl (by assumption) (by omega) (by omega) rfl trivial ?_
      | refine x_nil ?_
      | refine cw_seq ?_
      | refine nw_seq ?_
      | refine nw_block ?_
      | refine cw_block ?_
      | refine cw_skip ?_
      | refine cw_region ?_
      | refine cw_exit rfl ?_
      | refine cw_true rfl ?_
      | refine cw_false rfl ?_)
    refine x_call rfl rfl rfl trivial (awake19 _) ?_
    rintro _ Hz ⟨rfl, hkz⟩
    refine ⟨trivial, ?_⟩
    repeat (first
      | refine x_move rfl rfl rfl trivial ?_
      | refine x_assign rfl rfl rfl trivial ?_
      | refine x_add rfl rfl rfl (wrap_i64 (by omega) (by omega)) rfl trivial ?_
      | refine x_sub_ rfl rfl rfl (wrap_i64 (by omega) (by omega)) rfl trivial ?_
      | refine x_mul rfl rfl rfl (wrap_i64 (by omega) (by omega)) rfl trivial ?_
      | refine x_ibin rfl rfl rfl rfl rfl trivial ?_
      | refine x_neg_ rfl rfl (wrap_i64 (by omega) (by omega)) rfl trivial ?_
      | refine x_len rfl rfl (by assumption) rfl trivial ?_
      | refine x_pick_t rfl rfl rfl rfl trivial ?_
      | refine x_pick_f rfl rfl rfl rfl trivial ?_
      | refine x_not rfl rfl rfl trivial ?_
      | refine x_beq rfl rfl rfl rfl trivial ?_
      | refine x_bne rfl rfl rfl rfl trivial ?_
      | refine x_extract rfl rfl rfl rfl trivial ?_
      | refine x_nilCheck rfl rfl rfl trivial ?_
      | refine x_fieldAddr rfl rfl rfl rfl trivial ?_
      | refine x_skip trivial rfl rfl rfl ?_
      | refine x_indexAddr1 rfl rfl rfl (by assumption) (by omega) (by omega) rfl trivial ?_
      | refine x_indexAddr rfl rfl rfl (by assumption) (by omega) (by omega) rfl trivial ?_
      | refine x_nil ?_
      | refine cw_seq ?_
      | refine nw_seq ?_
      | refine nw_block ?_
      | refine cw_block ?_
      | refine cw_skip ?_
      | refine cw_region ?_
      | refine cw_exit rfl ?_
      | refine cw_true rfl ?_
      | refine cw_false rfl ?_)
    exact cw_ret1 rfl rfl ⟨rfl, (Keep.refl Non H).non_trans hkz⟩
  | false =>
    obtain ⟨hla, hka⟩ := h1 rfl
    repeat (first
      | refine x_move rfl rfl rfl trivial ?_
      | refine x_assign rfl rfl rfl trivial ?_
      | refine x_add rfl rfl rfl (wrap_i64 (by omega) (by omega)) rfl trivial ?_
      | refine x_sub_ rfl rfl rfl (wrap_i64 (by omega) (by omega)) rfl trivial ?_
      | refine x_mul rfl rfl rfl (wrap_i64 (by omega) (by omega)) rfl trivial ?_
      | refine x_ibin rfl rfl rfl rfl rfl trivial ?_
      | refine x_neg_ rfl rfl (wrap_i64 (by omega) (by omega)) rfl trivial ?_
      | refine x_len rfl rfl (by assumption) rfl trivial ?_
      | refine x_pick_t rfl rfl rfl rfl trivial ?_
      | refine x_pick_f rfl rfl rfl rfl trivial ?_
      | refine x_not rfl rfl rfl trivial ?_
      | refine x_beq rfl rfl rfl rfl trivial ?_
      | refine x_bne rfl rfl rfl rfl trivial ?_
      | refine x_extract rfl rfl rfl rfl trivial ?_
      | refine x_nilCheck rfl rfl rfl trivial ?_
      | refine x_fieldAddr rfl rfl rfl rfl trivial ?_
      | refine x_skip trivial rfl rfl rfl ?_
      | refine x_indexAddr1 rfl rfl rfl (by assumption) (by omega) (by omega) rfl trivial ?_
      | refine x_indexAddr rfl rfl rfl (by assumption) (by omega) (by omega) rfl trivial ?_
      | refine x_nil ?_
      | refine cw_seq ?_
      | refine nw_seq ?_
      | refine nw_block ?_
      | refine cw_block ?_
      | refine cw_skip ?_
      | refine cw_region ?_
      | refine cw_exit rfl ?_
      | refine cw_true rfl ?_
      | refine cw_false rfl ?_)
    refine x_call rfl rfl rfl trivial (law_GreatPairs 40 20 (by omega) hB) ?_
    rintro _ _ ⟨rfl, b2, rfl, h2⟩
    refine ⟨trivial, ?_⟩
    repeat (first
      | refine x_move rfl rfl rfl trivial ?_
      | refine x_assign rfl rfl rfl trivial ?_
      | refine x_add rfl rfl rfl (wrap_i64 (by omega) (by omega)) rfl trivial ?_
      | refine x_sub_ rfl rfl rfl (wrap_i64 (by omega) (by omega)) rfl trivial ?_
      | refine x_mul rfl rfl rfl (wrap_i64 (by omega) (by omega)) rfl trivial ?_
      | refine x_ibin rfl rfl rfl rfl rfl trivial ?_
      | refine x_neg_ rfl rfl (wrap_i64 (by omega) (by omega)) rfl trivial ?_
      | refine x_len rfl rfl (by assumption) rfl trivial ?_
      | refine x_pick_t rfl rfl rfl rfl trivial ?_
      | refine x_pick_f rfl rfl rfl rfl trivial ?_
      | refine x_not rfl rfl rfl trivial ?_
      | refine x_beq rfl rfl rfl rfl trivial ?_
      | refine x_bne rfl rfl rfl rfl trivial ?_
      | refine x_extract rfl rfl rfl rfl trivial ?_
      | refine x_nilCheck rfl rfl rfl trivial ?_
      | refine x_fieldAddr rfl rfl rfl rfl trivial ?_
      | refine x_skip trivial rfl rfl rfl ?_
      | refine x_indexAddr1 rfl rfl rfl (by assumption) (by omega) (by omega) rfl trivial ?_
      | refine x_indexAddr rfl rfl rfl (by assumption) (by omega) (by omega) rfl trivial ?_
      | refine x_nil ?_
      | refine cw_seq ?_
      | refine nw_seq ?_
      | refine nw_block ?_
      | refine cw_block ?_
      | refine cw_skip ?_
      | refine cw_region ?_
      | refine cw_exit rfl ?_
      | refine cw_true rfl ?_
      | refine cw_false rfl ?_)
    cases b2 with
    | true =>
      repeat (first
        | refine x_move rfl rfl rfl trivial ?_
        | refine x_assign rfl rfl rfl trivial ?_
        | refine x_add rfl rfl rfl (wrap_i64 (by omega) (by omega)) rfl trivial ?_
        | refine x_sub_ rfl rfl rfl (wrap_i64 (by omega) (by omega)) rfl trivial ?_
        | refine x_mul rfl rfl rfl (wrap_i64 (by omega) (by omega)) rfl trivial ?_
        | refine x_ibin rfl rfl rfl rfl rfl trivial ?_
        | refine x_neg_ rfl rfl (wrap_i64 (by omega) (by omega)) rfl trivial ?_
        | refine x_len rfl rfl (by assumption) rfl trivial ?_
        | refine x_pick_t rfl rfl rfl rfl trivial ?_
        | refine x_pick_f rfl rfl rfl rfl trivial ?_
        | refine x_not rfl rfl rfl trivial ?_
        | refine x_beq rfl rfl rfl rfl trivial ?_
        | refine x_bne rfl rfl rfl rfl trivial ?_
        | refine x_extract rfl rfl rfl rfl trivial ?_
        | refine x_nilCheck rfl rfl rfl trivial ?_
        | refine x_fieldAddr rfl rfl rfl rfl trivial ?_
        | refine x_skip trivial rfl rfl rfl ?_
        | refine x_indexAddr1 rfl rfl rfl (by assumption) (by omega) (by omega) rfl trivial ?_
        | refine x_indexAddr rfl rfl rfl (by assumption) (by omega) (by omega) rfl trivial ?_
        | refine x_nil ?_
        | refine cw_seq ?_
        | refine nw_seq ?_
        | refine nw_block ?_
        | refine cw_block ?_
        | refine cw_skip ?_
        | refine cw_region ?_
        | refine cw_exit rfl ?_
        | refine cw_true rfl ?_
        | refine cw_false rfl ?_)
      refine x_call rfl rfl rfl trivial (awake19 _) ?_
      rintro _ Hz ⟨rfl, hkz⟩
      refine ⟨trivial, ?_⟩
      repeat (first
        | refine x_move rfl rfl rfl trivial ?_
        | refine x_assign rfl rfl rfl trivial ?_
        | refine x_add rfl rfl rfl (wrap_i64 (by omega) (by omega)) rfl trivial ?_
        | refine x_sub_ rfl rfl rfl (wrap_i64 (by omega) (by omega)) rfl trivial ?_
        | refine x_mul rfl rfl rfl (wrap_i64 (by omega) (by omega)) rfl trivial ?_
        | refine x_ibin rfl rfl rfl rfl rfl trivial ?_
        | refine x_neg_ rfl rfl (wrap_i64 (by omega) (by omega)) rfl trivial ?_
        | refine x_len rfl rfl (by assumption) rfl trivial ?_
        | refine x_pick_t rfl rfl rfl rfl trivial ?_
        | refine x_pick_f rfl rfl rfl rfl trivial ?_
        | refine x_not rfl rfl rfl trivial ?_
        | refine x_beq rfl rfl rfl rfl trivial ?_
        | refine x_bne rfl rfl rfl rfl trivial ?_
        | refine x_extract rfl rfl rfl rfl trivial ?_
        | refine x_nilCheck rfl rfl rfl trivial ?_
        | refine x_fieldAddr rfl rfl rfl rfl trivial ?_
        | refine x_skip trivial rfl rfl rfl ?_
        | refine x_indexAddr1 rfl rfl rfl (by assumption) (by omega) (by omega) rfl trivial ?_
        | refine x_indexAddr rfl rfl rfl (by assumption) (by omega) (by omega) rfl trivial ?_
        | refine x_nil ?_
        | refine cw_seq ?_
        | refine nw_seq ?_
        | refine nw_block ?_
        | refine cw_block ?_
        | refine cw_skip ?_
        | refine cw_region ?_
        | refine cw_exit rfl ?_
        | refine cw_true rfl ?_
        | refine cw_false rfl ?_)
      exact cw_ret1 rfl rfl ⟨rfl, (Keep.refl Non H).non_trans hkz⟩
    | false =>
      obtain ⟨hlb, hkb⟩ := h2 rfl
      repeat (first
        | refine x_move rfl rfl rfl trivial ?_
        | refine x_assign rfl rfl rfl trivial ?_
        | refine x_add rfl rfl rfl (wrap_i64 (by omega) (by omega)) rfl trivial ?_
        | refine x_sub_ rfl rfl rfl (wrap_i64 (by omega) (by omega)) rfl trivial ?_
        | refine x_mul rfl rfl rfl (wrap_i64 (by omega) (by omega)) rfl trivial ?_
        | refine x_ibin rfl rfl rfl rfl rfl trivial ?_
        | refine x_neg_ rfl rfl (wrap_i64 (by omega) (by omega)) rfl trivial ?_
        | refine x_len rfl rfl (by assumption) rfl trivial ?_
        | refine x_pick_t rfl rfl rfl rfl trivial ?_
        | refine x_pick_f rfl rfl rfl rfl trivial ?_
        | refine x_not rfl rfl rfl trivial ?_
        | refine x_beq rfl rfl rfl rfl trivial ?_
        | refine x_bne rfl rfl rfl rfl trivial ?_
        | refine x_extract rfl rfl rfl rfl trivial ?_
        | refine x_nilCheck rfl rfl rfl trivial ?_
        | refine x_fieldAddr rfl rfl rfl rfl trivial ?_
        | refine x_skip trivial rfl rfl rfl ?_
        | refine x_indexAddr1 rfl rfl rfl (by assumption) (by omega) (by omega) rfl trivial ?_
        | refine x_indexAddr rfl rfl rfl (by assumption) (by omega) (by omega) rfl trivial ?_
        | refine x_nil ?_
        | refine cw_seq ?_
        | refine nw_seq ?_
        | refine nw_block ?_
        | refine cw_block ?_
        | refine cw_skip ?_
        | refine cw_exit rfl ?_
        | refine cw_true rfl ?_
        | refine cw_false rfl ?_)
      refine cw_cut (fun (s : Value × Value) => [(0, .int .i64 op), (1, .int .i64 policy), (2, va), (3, vb), (4, .int .u64 x), (5, .int .u64 y), (13, s.1), (14, s.2)]) (fun s H' => Keep Non H H' ∧ Ps H' s.1 (newM la) ∧ Ps H' s.2 (newM lb)) ?_ ?_
      · refine cw_held (fun _ _ => True) ⟨[1, 4, 6, 9], []⟩ (.op 0 (.op 5 (.op 1 (.op 2 (.op 3 (.alt (.op 4 (.op 6 (.op 7 (.op 8 (.op 10 (.op 9 (.op 11 (.nil)))))))) (.op 6 (.op 7 (.op 8 (.alt (.op 4 (.op 10 (.op 9 (.op 11 (.nil))))) (.op 9 (.op 4 (.op 10 (.op 11 (.nil))))))))))))))) panicOk_body mixed (by kernel_rfl) ?_
        repeat (first
          | refine x_move rfl rfl rfl (okq_reg rfl rfl) ?_
          | refine x_assign rfl rfl rfl (okq_reg rfl rfl) ?_
          | refine x_add rfl rfl rfl (wrap_i64 (by omega) (by omega)) rfl (okq_reg rfl rfl) ?_
          | refine x_sub_ rfl rfl rfl (wrap_i64 (by omega) (by omega)) rfl (okq_reg rfl rfl) ?_
          | refine x_mul rfl rfl rfl (wrap_i64 (by omega) (by omega)) rfl (okq_reg rfl rfl) ?_
          | refine x_ibin rfl rfl rfl rfl rfl (okq_reg rfl rfl) ?_
          | refine x_len rfl rfl (by assumption) rfl (okq_reg rfl rfl) ?_
          | refine x_pick_t rfl rfl rfl rfl (okq_reg rfl rfl) ?_
          | refine x_pick_f rfl rfl rfl rfl (okq_reg rfl rfl) ?_
          | refine x_not rfl rfl rfl (okq_reg rfl rfl) ?_
          | refine x_extract rfl rfl rfl rfl (okq_reg rfl rfl) ?_
          | refine x_nilCheck rfl rfl rfl (okq_reg rfl rfl) ?_
          | refine x_fieldAddr rfl rfl rfl rfl (okq_reg rfl rfl) ?_
          | refine x_skip (okq_reg rfl rfl) rfl rfl rfl ?_
          | refine x_indexAddr1 rfl rfl rfl (by assumption) (by omega) (by omega) rfl (okq_reg rfl rfl) ?_
          | refine x_indexAddr rfl rfl rfl (by assumption) (by omega) (by omega) rfl (okq_reg rfl rfl) ?_
          | refine x_nil ?_
          | refine cw_seq ?_
          | refine nw_seq ?_
          | refine nw_block ?_
          | refine cw_block ?_
          | refine cw_skip ?_
          | refine cw_region ?_
          | refine cw_exit rfl ?_
          | refine cw_true rfl ?_
          | refine cw_false rfl ?_)
        refine x_call rfl rfl rfl ⟨rfl, rfl⟩ (ref_New hA (by omega) (fun p hp => by have := hka p hp; omega)) ?_
        rintro _ Ha ⟨ka, ba, rfl, hba, hMa⟩
        refine ⟨okm_nil rfl, ?_⟩
        obtain ⟨ua, hBa, hPa⟩ := hMa.row
        have ca : cel Ha ba 0 = some ua := by rw [hBa.cel]; rfl
        repeat (first
          | refine x_move rfl rfl rfl (okq_reg rfl rfl) ?_
          | refine x_assign rfl rfl rfl (okq_reg rfl rfl) ?_
          | refine x_add rfl rfl rfl (wrap_i64 (by omega) (by omega)) rfl (okq_reg rfl rfl) ?_
          | refine x_sub_ rfl rfl rfl (wrap_i64 (by omega) (by omega)) rfl (okq_reg rfl rfl) ?_
          | refine x_mul rfl rfl rfl (wrap_i64 (by omega) (by omega)) rfl (okq_reg rfl rfl) ?_
          | refine x_ibin rfl rfl rfl rfl rfl (okq_reg rfl rfl) ?_
          | refine x_len rfl rfl (by assumption) rfl (okq_reg rfl rfl) ?_
          | refine x_pick_t rfl rfl rfl rfl (okq_reg rfl rfl) ?_
          | refine x_pick_f rfl rfl rfl rfl (okq_reg rfl rfl) ?_
          | refine x_not rfl rfl rfl (okq_reg rfl rfl) ?_
          | refine x_extract rfl rfl rfl rfl (okq_reg rfl rfl) ?_
          | refine x_nilCheck rfl rfl rfl (okq_reg rfl rfl) ?_
          | refine x_fieldAddr rfl rfl rfl rfl (okq_reg rfl rfl) ?_
          | refine x_skip (okq_reg rfl rfl) rfl rfl rfl ?_
          | refine x_indexAddr1 rfl rfl rfl (by assumption) (by omega) (by omega) rfl (okq_reg rfl rfl) ?_
          | refine x_indexAddr rfl rfl rfl (by assumption) (by omega) (by omega) rfl (okq_reg rfl rfl) ?_
          | refine x_nil ?_
          | refine cw_seq ?_
          | refine nw_seq ?_
          | refine nw_block ?_
          | refine cw_block ?_
          | refine cw_skip ?_
          | refine cw_region ?_
          | refine cw_exit rfl ?_
          | refine cw_true rfl ?_
          | refine cw_false rfl ?_)
        refine x_alt ?_ ?_
        · refine x_load_e rfl rfl ca rfl ⟨rfl, rfl⟩ ?_
          refine x_call rfl rfl rfl ⟨rfl, rfl⟩ (ref_New (hB.keepN ka) (by omega) (fun p hp => by have := hkb p hp; omega)) ?_
          rintro _ Hb ⟨kb, bb, rfl, hbb, hMb⟩
          refine ⟨okm_nil rfl, ?_⟩
          obtain ⟨ub, hBb, hPb⟩ := hMb.row
          have cb : cel Hb bb 0 = some ub := by rw [hBb.cel]; rfl
          repeat (first
            | refine x_move rfl rfl rfl (okq_reg rfl rfl) ?_
            | refine x_assign rfl rfl rfl (okq_reg rfl rfl) ?_
            | refine x_add rfl rfl rfl (wrap_i64 (by omega) (by omega)) rfl (okq_reg rfl rfl) ?_
            | refine x_sub_ rfl rfl rfl (wrap_i64 (by omega) (by omega)) rfl (okq_reg rfl rfl) ?_
            | refine x_mul rfl rfl rfl (wrap_i64 (by omega) (by omega)) rfl (okq_reg rfl rfl) ?_
            | refine x_ibin rfl rfl rfl rfl rfl (okq_reg rfl rfl) ?_
            | refine x_len rfl rfl (by assumption) rfl (okq_reg rfl rfl) ?_
            | refine x_pick_t rfl rfl rfl rfl (okq_reg rfl rfl) ?_
            | refine x_pick_f rfl rfl rfl rfl (okq_reg rfl rfl) ?_
            | refine x_not rfl rfl rfl (okq_reg rfl rfl) ?_
            | refine x_extract rfl rfl rfl rfl (okq_reg rfl rfl) ?_
            | refine x_nilCheck rfl rfl rfl (okq_reg rfl rfl) ?_
            | refine x_fieldAddr rfl rfl rfl rfl (okq_reg rfl rfl) ?_
            | refine x_skip (okq_reg rfl rfl) rfl rfl rfl ?_
            | refine x_indexAddr1 rfl rfl rfl (by assumption) (by omega) (by omega) rfl (okq_reg rfl rfl) ?_
            | refine x_indexAddr rfl rfl rfl (by assumption) (by omega) (by omega) rfl (okq_reg rfl rfl) ?_
            | refine x_nil ?_
            | refine cw_seq ?_
            | refine nw_seq ?_
            | refine nw_block ?_
            | refine cw_block ?_
            | refine cw_skip ?_
            | refine cw_region ?_
            | refine cw_exit rfl ?_
            | refine cw_true rfl ?_
            | refine cw_false rfl ?_)
          refine x_load_e rfl rfl cb rfl ⟨rfl, rfl⟩ ?_
          repeat (first
            | refine x_move rfl rfl rfl (okq_reg rfl rfl) ?_
            | refine x_assign rfl rfl rfl (okq_reg rfl rfl) ?_
            | refine x_add rfl rfl rfl (wrap_i64 (by omega) (by omega)) rfl (okq_reg rfl rfl) ?_
            | refine x_sub_ rfl rfl rfl (wrap_i64 (by omega) (by omega)) rfl (okq_reg rfl rfl) ?_
            | refine x_mul rfl rfl rfl (wrap_i64 (by omega) (by omega)) rfl (okq_reg rfl rfl) ?_
            | refine x_ibin rfl rfl rfl rfl rfl (okq_reg rfl rfl) ?_
            | refine x_len rfl rfl (by assumption) rfl (okq_reg rfl rfl) ?_
            | refine x_pick_t rfl rfl rfl rfl (okq_reg rfl rfl) ?_
            | refine x_pick_f rfl rfl rfl rfl (okq_reg rfl rfl) ?_
            | refine x_not rfl rfl rfl (okq_reg rfl rfl) ?_
            | refine x_extract rfl rfl rfl rfl (okq_reg rfl rfl) ?_
            | refine x_nilCheck rfl rfl rfl (okq_reg rfl rfl) ?_
            | refine x_fieldAddr rfl rfl rfl rfl (okq_reg rfl rfl) ?_
            | refine x_skip (okq_reg rfl rfl) rfl rfl rfl ?_
            | refine x_indexAddr1 rfl rfl rfl (by assumption) (by omega) (by omega) rfl (okq_reg rfl rfl) ?_
            | refine x_indexAddr rfl rfl rfl (by assumption) (by omega) (by omega) rfl (okq_reg rfl rfl) ?_
            | refine x_nil ?_
            | refine cw_seq ?_
            | refine nw_seq ?_
            | refine nw_block ?_
            | refine cw_block ?_
            | refine cw_skip ?_
            | refine cw_region ?_
            | refine cw_exit rfl ?_
            | refine cw_true rfl ?_
            | refine cw_false rfl ?_)
          refine nw_meet (ua, ub) (by repeat (first | exact True.intro | refine ⟨rfl, ?_⟩)) ⟨ka.non_trans kb, hPa.keepN kb, hPb⟩
        · refine x_call rfl rfl rfl ⟨rfl, rfl⟩ (ref_New (hB.keepN ka) (by omega) (fun p hp => by have := hkb p hp; omega)) ?_
          rintro _ Hb ⟨kb, bb, rfl, hbb, hMb⟩
          refine ⟨okm_nil rfl, ?_⟩
          obtain ⟨ub, hBb, hPb⟩ := hMb.row
          have cb : cel Hb bb 0 = some ub := by rw [hBb.cel]; rfl
          repeat (first
            | refine x_move rfl rfl rfl (okq_reg rfl rfl) ?_
            | refine x_assign rfl rfl rfl (okq_reg rfl rfl) ?_
            | refine x_add rfl rfl rfl (wrap_i64 (by omega) (by omega)) rfl (okq_reg rfl rfl) ?_
            | refine x_sub_ rfl rfl rfl (wrap_i64 (by omega) (by omega)) rfl (okq_reg rfl rfl) ?_
            | refine x_mul rfl rfl rfl (wrap_i64 (by omega) (by omega)) rfl (okq_reg rfl rfl) ?_
            | refine x_ibin rfl rfl rfl rfl rfl (okq_reg rfl rfl) ?_
            | refine x_len rfl rfl (by assumption) rfl (okq_reg rfl rfl) ?_
            | refine x_pick_t rfl rfl rfl rfl (okq_reg rfl rfl) ?_
            | refine x_pick_f rfl rfl rfl rfl (okq_reg rfl rfl) ?_
            | refine x_not rfl rfl rfl (okq_reg rfl rfl) ?_
            | refine x_extract rfl rfl rfl rfl (okq_reg rfl rfl) ?_
            | refine x_nilCheck rfl rfl rfl (okq_reg rfl rfl) ?_
            | refine x_fieldAddr rfl rfl rfl rfl (okq_reg rfl rfl) ?_
            | refine x_skip (okq_reg rfl rfl) rfl rfl rfl ?_
            | refine x_indexAddr1 rfl rfl rfl (by assumption) (by omega) (by omega) rfl (okq_reg rfl rfl) ?_
            | refine x_indexAddr rfl rfl rfl (by assumption) (by omega) (by omega) rfl (okq_reg rfl rfl) ?_
            | refine x_nil ?_
            | refine cw_seq ?_
            | refine nw_seq ?_
            | refine nw_block ?_
            | refine cw_block ?_
            | refine cw_skip ?_
            | refine cw_region ?_
            | refine cw_exit rfl ?_
            | refine cw_true rfl ?_
            | refine cw_false rfl ?_)
          refine x_alt ?_ ?_
          · refine x_load_e rfl rfl (kb.cel ca (fun h => h)) rfl ⟨rfl, rfl⟩ ?_
            repeat (first
              | refine x_move rfl rfl rfl (okq_reg rfl rfl) ?_
              | refine x_assign rfl rfl rfl (okq_reg rfl rfl) ?_
              | refine x_add rfl rfl rfl (wrap_i64 (by omega) (by omega)) rfl (okq_reg rfl rfl) ?_
              | refine x_sub_ rfl rfl rfl (wrap_i64 (by omega) (by omega)) rfl (okq_reg rfl rfl) ?_
              | refine x_mul rfl rfl rfl (wrap_i64 (by omega) (by omega)) rfl (okq_reg rfl rfl) ?_
              | refine x_ibin rfl rfl rfl rfl rfl (okq_reg rfl rfl) ?_
              | refine x_len rfl rfl (by assumption) rfl (okq_reg rfl rfl) ?_
              | refine x_pick_t rfl rfl rfl rfl (okq_reg rfl rfl) ?_
              | refine x_pick_f rfl rfl rfl rfl (okq_reg rfl rfl) ?_
              | refine x_not rfl rfl rfl (okq_reg rfl rfl) ?_
              | refine x_extract rfl rfl rfl rfl (okq_reg rfl rfl) ?_
              | refine x_nilCheck rfl rfl rfl (okq_reg rfl rfl) ?_
              | refine x_fieldAddr rfl rfl rfl rfl (okq_reg rfl rfl) ?_
              | refine x_skip (okq_reg rfl rfl) rfl rfl rfl ?_
              | refine x_indexAddr1 rfl rfl rfl (by assumption) (by omega) (by omega) rfl (okq_reg rfl rfl) ?_
              | refine x_indexAddr rfl rfl rfl (by assumption) (by omega) (by omega) rfl (okq_reg rfl rfl) ?_
              | refine x_nil ?_
              | refine cw_seq ?_
              | refine nw_seq ?_
              | refine nw_block ?_
              | refine cw_block ?_
              | refine cw_skip ?_
              | refine cw_region ?_
              | refine cw_exit rfl ?_
              | refine cw_true rfl ?_
              | refine cw_false rfl ?_)
            refine x_load_e rfl rfl cb rfl ⟨rfl, rfl⟩ ?_
            repeat (first
              | refine x_move rfl rfl rfl (okq_reg rfl rfl) ?_
              | refine x_assign rfl rfl rfl (okq_reg rfl rfl) ?_
              | refine x_add rfl rfl rfl (wrap_i64 (by omega) (by omega)) rfl (okq_reg rfl rfl) ?_
              | refine x_sub_ rfl rfl rfl (wrap_i64 (by omega) (by omega)) rfl (okq_reg rfl rfl) ?_
              | refine x_mul rfl rfl rfl (wrap_i64 (by omega) (by omega)) rfl (okq_reg rfl rfl) ?_
              | refine x_ibin rfl rfl rfl rfl rfl (okq_reg rfl rfl) ?_
              | refine x_len rfl rfl (by assumption) rfl (okq_reg rfl rfl) ?_
              | refine x_pick_t rfl rfl rfl rfl (okq_reg rfl rfl) ?_
              | refine x_pick_f rfl rfl rfl rfl (okq_reg rfl rfl) ?_
              | refine x_not rfl rfl rfl (okq_reg rfl rfl) ?_
              | refine x_extract rfl rfl rfl rfl (okq_reg rfl rfl) ?_
              | refine x_nilCheck rfl rfl rfl (okq_reg rfl rfl) ?_
              | refine x_fieldAddr rfl rfl rfl rfl (okq_reg rfl rfl) ?_
              | refine x_skip (okq_reg rfl rfl) rfl rfl rfl ?_
              | refine x_indexAddr1 rfl rfl rfl (by assumption) (by omega) (by omega) rfl (okq_reg rfl rfl) ?_
              | refine x_indexAddr rfl rfl rfl (by assumption) (by omega) (by omega) rfl (okq_reg rfl rfl) ?_
              | refine x_nil ?_
              | refine cw_seq ?_
              | refine nw_seq ?_
              | refine nw_block ?_
              | refine cw_block ?_
              | refine cw_skip ?_
              | refine cw_region ?_
              | refine cw_exit rfl ?_
              | refine cw_true rfl ?_
              | refine cw_false rfl ?_)
            refine nw_meet (ua, ub) (by repeat (first | exact True.intro | refine ⟨rfl, ?_⟩)) ⟨ka.non_trans kb, hPa.keepN kb, hPb⟩
          · refine x_load_e rfl rfl cb rfl ⟨rfl, rfl⟩ ?_
            repeat (first
              | refine x_move rfl rfl rfl (okq_reg rfl rfl) ?_
              | refine x_assign rfl rfl rfl (okq_reg rfl rfl) ?_
              | refine x_add rfl rfl rfl (wrap_i64 (by omega) (by omega)) rfl (okq_reg rfl rfl) ?_
              | refine x_sub_ rfl rfl rfl (wrap_i64 (by omega) (by omega)) rfl (okq_reg rfl rfl) ?_
              | refine x_mul rfl rfl rfl (wrap_i64 (by omega) (by omega)) rfl (okq_reg rfl rfl) ?_
              | refine x_ibin rfl rfl rfl rfl rfl (okq_reg rfl rfl) ?_
              | refine x_len rfl rfl (by assumption) rfl (okq_reg rfl rfl) ?_
              | refine x_pick_t rfl rfl rfl rfl (okq_reg rfl rfl) ?_
              | refine x_pick_f rfl rfl rfl rfl (okq_reg rfl rfl) ?_
              | refine x_not rfl rfl rfl (okq_reg rfl rfl) ?_
              | refine x_extract rfl rfl rfl rfl (okq_reg rfl rfl) ?_
              | refine x_nilCheck rfl rfl rfl (okq_reg rfl rfl) ?_
              | refine x_fieldAddr rfl rfl rfl rfl (okq_reg rfl rfl) ?_
              | refine x_skip (okq_reg rfl rfl) rfl rfl rfl ?_
              | refine x_indexAddr1 rfl rfl rfl (by assumption) (by omega) (by omega) rfl (okq_reg rfl rfl) ?_
              | refine x_indexAddr rfl rfl rfl (by assumption) (by omega) (by omega) rfl (okq_reg rfl rfl) ?_
              | refine x_nil ?_
              | refine cw_seq ?_
              | refine nw_seq ?_
              | refine nw_block ?_
              | refine cw_block ?_
              | refine cw_skip ?_
              | refine cw_region ?_
              | refine cw_exit rfl ?_
              | refine cw_true rfl ?_
              | refine cw_false rfl ?_)
            refine x_load_e rfl rfl (kb.cel ca (fun h => h)) rfl ⟨rfl, rfl⟩ ?_
            repeat (first
              | refine x_move rfl rfl rfl (okq_reg rfl rfl) ?_
              | refine x_assign rfl rfl rfl (okq_reg rfl rfl) ?_
              | refine x_add rfl rfl rfl (wrap_i64 (by omega) (by omega)) rfl (okq_reg rfl rfl) ?_
              | refine x_sub_ rfl rfl rfl (wrap_i64 (by omega) (by omega)) rfl (okq_reg rfl rfl) ?_
              | refine x_mul rfl rfl rfl (wrap_i64 (by omega) (by omega)) rfl (okq_reg rfl rfl) ?_
              | refine x_ibin rfl rfl rfl rfl rfl (okq_reg rfl rfl) ?_
              | refine x_len rfl rfl (by assumption) rfl (okq_reg rfl rfl) ?_
              | refine x_pick_t rfl rfl rfl rfl (okq_reg rfl rfl) ?_
              | refine x_pick_f rfl rfl rfl rfl (okq_reg rfl rfl) ?_
              | refine x_not rfl rfl rfl (okq_reg rfl rfl) ?_
              | refine x_extract rfl rfl rfl rfl (okq_reg rfl rfl) ?_
              | refine x_nilCheck rfl rfl rfl (okq_reg rfl rfl) ?_
              | refine x_fieldAddr rfl rfl rfl rfl (okq_reg rfl rfl) ?_
              | refine x_skip (okq_reg rfl rfl) rfl rfl rfl ?_
              | refine x_indexAddr1 rfl rfl rfl (by assumption) (by omega) (by omega) rfl (okq_reg rfl rfl) ?_
              | refine x_indexAddr rfl rfl rfl (by assumption) (by omega) (by omega) rfl (okq_reg rfl rfl) ?_
              | refine x_nil ?_
              | refine cw_seq ?_
              | refine nw_seq ?_
              | refine nw_block ?_
              | refine cw_block ?_
              | refine cw_skip ?_
              | refine cw_region ?_
              | refine cw_exit rfl ?_
              | refine cw_true rfl ?_
              | refine cw_false rfl ?_)
            refine nw_meet (ua, ub) (by repeat (first | exact True.intro | refine ⟨rfl, ?_⟩)) ⟨ka.non_trans kb, hPa.keepN kb, hPb⟩
      · rintro ⟨ua, ub⟩ H1 ⟨hk1, hPa, hPb⟩
        simp only at hPa hPb
        have hna := newM_length la
        have hnb := newM_length lb
        have hma := newM_keys hka
        have hmb := newM_keys hkb
        generalize newM la = p at *
        generalize newM lb = q at *
        repeat (first
          | refine x_move rfl rfl rfl trivial ?_
          | refine x_assign rfl rfl rfl trivial ?_
          | refine x_add rfl rfl rfl (wrap_i64 (by omega) (by omega)) rfl trivial ?_
          | refine x_sub_ rfl rfl rfl (wrap_i64 (by omega) (by omega)) rfl trivial ?_
          | refine x_mul rfl rfl rfl (wrap_i64 (by omega) (by omega)) rfl trivial ?_
          | refine x_ibin rfl rfl rfl rfl rfl trivial ?_
          | refine x_neg_ rfl rfl (wrap_i64 (by omega) (by omega)) rfl trivial ?_
          | refine x_len rfl rfl (by assumption) rfl trivial ?_
          | refine x_pick_t rfl rfl rfl rfl trivial ?_
          | refine x_pick_f rfl rfl rfl rfl trivial ?_
          | refine x_not rfl rfl rfl trivial ?_
          | refine x_beq rfl rfl rfl rfl trivial ?_
          | refine x_bne rfl rfl rfl rfl trivial ?_
          | refine x_extract rfl rfl rfl rfl trivial ?_
          | refine x_nilCheck rfl rfl rfl trivial ?_
          | refine x_fieldAddr rfl rfl rfl rfl trivial ?_
          | refine x_skip trivial rfl rfl rfl ?_
          | refine x_indexAddr1 rfl rfl rfl (by assumption) (by omega) (by omega) rfl trivial ?_
          | refine x_indexAddr rfl rfl rfl (by assumption) (by omega) (by omega) rfl trivial ?_
          | refine x_nil ?_
          | refine cw_seq ?_
          | refine nw_seq ?_
          | refine nw_block ?_
          | refine cw_block ?_
          | refine cw_skip ?_
          | refine cw_region ?_
          | refine cw_exit rfl ?_
          | refine cw_true rfl ?_
          | refine cw_false rfl ?_)
        refine x_call rfl rfl rfl trivial (law_Copied hPa (by omega) (fun r hr => by have := hma r hr; omega)) ?_
        rintro v1 H2 ⟨hk2, hv1⟩
        refine ⟨trivial, ?_⟩
        repeat (first
          | refine x_move rfl rfl rfl trivial ?_
          | refine x_assign rfl rfl rfl trivial ?_
          | refine x_add rfl rfl rfl (wrap_i64 (by omega) (by omega)) rfl trivial ?_
          | refine x_sub_ rfl rfl rfl (wrap_i64 (by omega) (by omega)) rfl trivial ?_
          | refine x_mul rfl rfl rfl (wrap_i64 (by omega) (by omega)) rfl trivial ?_
          | refine x_ibin rfl rfl rfl rfl rfl trivial ?_
          | refine x_neg_ rfl rfl (wrap_i64 (by omega) (by omega)) rfl trivial ?_
          | refine x_len rfl rfl (by assumption) rfl trivial ?_
          | refine x_pick_t rfl rfl rfl rfl trivial ?_
          | refine x_pick_f rfl rfl rfl rfl trivial ?_
          | refine x_not rfl rfl rfl trivial ?_
          | refine x_beq rfl rfl rfl rfl trivial ?_
          | refine x_bne rfl rfl rfl rfl trivial ?_
          | refine x_extract rfl rfl rfl rfl trivial ?_
          | refine x_nilCheck rfl rfl rfl trivial ?_
          | refine x_fieldAddr rfl rfl rfl rfl trivial ?_
          | refine x_skip trivial rfl rfl rfl ?_
          | refine x_indexAddr1 rfl rfl rfl (by assumption) (by omega) (by omega) rfl trivial ?_
          | refine x_indexAddr rfl rfl rfl (by assumption) (by omega) (by omega) rfl trivial ?_
          | refine x_nil ?_
          | refine cw_seq ?_
          | refine nw_seq ?_
          | refine nw_block ?_
          | refine cw_block ?_
          | refine cw_skip ?_
          | refine cw_region ?_
          | refine cw_exit rfl ?_
          | refine cw_true rfl ?_
          | refine cw_false rfl ?_)
        refine x_call rfl rfl rfl trivial (law_Copied (hPb.keepN hk2) (by omega) (fun r hr => by have := hmb r hr; omega)) ?_
        rintro v2 H3 ⟨hk3, hv2⟩
        refine ⟨trivial, ?_⟩
        have ga : ∀ r ∈ p, r.1.length ≤ 1000000 := fun r hr => by have := hma r hr; omega
        have gb : ∀ r ∈ q, r.1.length ≤ 1000000 := fun r hr => by have := hmb r hr; omega
        have gla : ∀ r ∈ la, r.1.length ≤ 1000000 := fun r hr => by have := hka r hr; omega
        have glb : ∀ r ∈ lb, r.1.length ≤ 1000000 := fun r hr => by have := hkb r hr; omega
        have hc1 := (hv1.keepN hk3).ps
        have hc2 := hv2.ps
        have k13 := hk2.non_trans hk3
        have hPa3 := hPa.keepN k13
        have hPb3 := hPb.keepN k13
        have hA3 := (hA.keepN hk1).keepN k13
        have hB3 := (hB.keepN hk1).keepN k13
        repeat (first
          | refine x_move rfl rfl rfl trivial ?_
          | refine x_assign rfl rfl rfl trivial ?_
          | refine x_add rfl rfl rfl (wrap_i64 (by omega) (by omega)) rfl trivial ?_
          | refine x_sub_ rfl rfl rfl (wrap_i64 (by omega) (by omega)) rfl trivial ?_
          | refine x_mul rfl rfl rfl (wrap_i64 (by omega) (by omega)) rfl trivial ?_
          | refine x_ibin rfl rfl rfl rfl rfl trivial ?_
          | refine x_neg_ rfl rfl (wrap_i64 (by omega) (by omega)) rfl trivial ?_
          | refine x_len rfl rfl (by assumption) rfl trivial ?_
          | refine x_pick_t rfl rfl rfl rfl trivial ?_
          | refine x_pick_f rfl rfl rfl rfl trivial ?_
          | refine x_not rfl rfl rfl trivial ?_
          | refine x_beq rfl rfl rfl rfl trivial ?_
          | refine x_bne rfl rfl rfl rfl trivial ?_
          | refine x_extract rfl rfl rfl rfl trivial ?_
          | refine x_nilCheck rfl rfl rfl trivial ?_
          | refine x_fieldAddr rfl rfl rfl rfl trivial ?_
          | refine x_skip trivial rfl rfl rfl ?_
          | refine x_indexAddr1 rfl rfl rfl (by assumption) (by omega) (by omega) rfl trivial ?_
          | refine x_indexAddr rfl rfl rfl (by assumption) (by omega) (by omega) rfl trivial ?_
          | refine x_nil ?_
          | refine cw_seq ?_
          | refine nw_seq ?_
          | refine nw_block ?_
          | refine cw_block ?_
          | refine cw_skip ?_
          | refine cw_region ?_
          | refine cw_exit rfl ?_
          | refine cw_true rfl ?_
          | refine cw_false rfl ?_)
        refine x_call rfl rfl rfl trivial (merge_Of hc1 hc2 (by omega) (by omega) ga gb) ?_
        rintro _ H4 ⟨hk4, u1, rfl, hu1⟩
        refine ⟨trivial, ?_⟩
        repeat (first
          | refine x_move rfl rfl rfl trivial ?_
          | refine x_assign rfl rfl rfl trivial ?_
          | refine x_add rfl rfl rfl (wrap_i64 (by omega) (by omega)) rfl trivial ?_
          | refine x_sub_ rfl rfl rfl (wrap_i64 (by omega) (by omega)) rfl trivial ?_
          | refine x_mul rfl rfl rfl (wrap_i64 (by omega) (by omega)) rfl trivial ?_
          | refine x_ibin rfl rfl rfl rfl rfl trivial ?_
          | refine x_neg_ rfl rfl (wrap_i64 (by omega) (by omega)) rfl trivial ?_
          | refine x_len rfl rfl (by assumption) rfl trivial ?_
          | refine x_pick_t rfl rfl rfl rfl trivial ?_
          | refine x_pick_f rfl rfl rfl rfl trivial ?_
          | refine x_not rfl rfl rfl trivial ?_
          | refine x_beq rfl rfl rfl rfl trivial ?_
          | refine x_bne rfl rfl rfl rfl trivial ?_
          | refine x_extract rfl rfl rfl rfl trivial ?_
          | refine x_nilCheck rfl rfl rfl trivial ?_
          | refine x_fieldAddr rfl rfl rfl rfl trivial ?_
          | refine x_skip trivial rfl rfl rfl ?_
          | refine x_indexAddr1 rfl rfl rfl (by assumption) (by omega) (by omega) rfl trivial ?_
          | refine x_indexAddr rfl rfl rfl (by assumption) (by omega) (by omega) rfl trivial ?_
          | refine x_nil ?_
          | refine cw_seq ?_
          | refine nw_seq ?_
          | refine nw_block ?_
          | refine cw_block ?_
          | refine cw_skip ?_
          | refine cw_region ?_
          | refine cw_exit rfl ?_
          | refine cw_true rfl ?_
          | refine cw_false rfl ?_)
        refine x_call rfl rfl rfl trivial (ref_Of (hPa3.keepN hk4) (hPb3.keepN hk4) (by omega) (by omega) ga gb) ?_
        rintro _ H5 ⟨hk5, u2, rfl, hu2⟩
        refine ⟨trivial, ?_⟩
        have k35 := hk4.non_trans hk5
        repeat (first
          | refine x_move rfl rfl rfl trivial ?_
          | refine x_assign rfl rfl rfl trivial ?_
          | refine x_add rfl rfl rfl (wrap_i64 (by omega) (by omega)) rfl trivial ?_
          | refine x_sub_ rfl rfl rfl (wrap_i64 (by omega) (by omega)) rfl trivial ?_
          | refine x_mul rfl rfl rfl (wrap_i64 (by omega) (by omega)) rfl trivial ?_
          | refine x_ibin rfl rfl rfl rfl rfl trivial ?_
          | refine x_neg_ rfl rfl (wrap_i64 (by omega) (by omega)) rfl trivial ?_
          | refine x_len rfl rfl (by assumption) rfl trivial ?_
          | refine x_pick_t rfl rfl rfl rfl trivial ?_
          | refine x_pick_f rfl rfl rfl rfl trivial ?_
          | refine x_not rfl rfl rfl trivial ?_
          | refine x_beq rfl rfl rfl rfl trivial ?_
          | refine x_bne rfl rfl rfl rfl trivial ?_
          | refine x_extract rfl rfl rfl rfl trivial ?_
          | refine x_nilCheck rfl rfl rfl trivial ?_
          | refine x_fieldAddr rfl rfl rfl rfl trivial ?_
          | refine x_skip trivial rfl rfl rfl ?_
          | refine x_indexAddr1 rfl rfl rfl (by assumption) (by omega) (by omega) rfl trivial ?_
          | refine x_indexAddr rfl rfl rfl (by assumption) (by omega) (by omega) rfl trivial ?_
          | refine x_nil ?_
          | refine cw_seq ?_
          | refine nw_seq ?_
          | refine nw_block ?_
          | refine cw_block ?_
          | refine cw_skip ?_
          | refine cw_region ?_
          | refine cw_exit rfl ?_
          | refine cw_true rfl ?_
          | refine cw_false rfl ?_)
        refine x_call rfl rfl rfl trivial (merge_Of (hA3.keepN k35) (hB3.keepN k35) (by omega) (by omega) gla glb) ?_
        rintro _ H6 ⟨hk6, u3, rfl, hu3⟩
        refine ⟨trivial, ?_⟩
        have k36 := k35.non_trans hk6
        repeat (first
          | refine x_move rfl rfl rfl trivial ?_
          | refine x_assign rfl rfl rfl trivial ?_
          | refine x_add rfl rfl rfl (wrap_i64 (by omega) (by omega)) rfl trivial ?_
          | refine x_sub_ rfl rfl rfl (wrap_i64 (by omega) (by omega)) rfl trivial ?_
          | refine x_mul rfl rfl rfl (wrap_i64 (by omega) (by omega)) rfl trivial ?_
          | refine x_ibin rfl rfl rfl rfl rfl trivial ?_
          | refine x_neg_ rfl rfl (wrap_i64 (by omega) (by omega)) rfl trivial ?_
          | refine x_len rfl rfl (by assumption) rfl trivial ?_
          | refine x_pick_t rfl rfl rfl rfl trivial ?_
          | refine x_pick_f rfl rfl rfl rfl trivial ?_
          | refine x_not rfl rfl rfl trivial ?_
          | refine x_beq rfl rfl rfl rfl trivial ?_
          | refine x_bne rfl rfl rfl rfl trivial ?_
          | refine x_extract rfl rfl rfl rfl trivial ?_
          | refine x_nilCheck rfl rfl rfl trivial ?_
          | refine x_fieldAddr rfl rfl rfl rfl trivial ?_
          | refine x_skip trivial rfl rfl rfl ?_
          | refine x_indexAddr1 rfl rfl rfl (by assumption) (by omega) (by omega) rfl trivial ?_
          | refine x_indexAddr rfl rfl rfl (by assumption) (by omega) (by omega) rfl trivial ?_
          | refine x_nil ?_
          | refine cw_seq ?_
          | refine nw_seq ?_
          | refine nw_block ?_
          | refine cw_block ?_
          | refine cw_skip ?_
          | refine cw_region ?_
          | refine cw_exit rfl ?_
          | refine cw_true rfl ?_
          | refine cw_false rfl ?_)
        refine x_call rfl rfl rfl trivial (ref_Of (hA3.keepN k36) (hB3.keepN k36) (by omega) (by omega) gla glb) ?_
        rintro _ H7 ⟨hk7, u4, rfl, hu4⟩
        refine ⟨trivial, ?_⟩
        have k37 := k36.non_trans hk7
        have k57 := hk6.non_trans hk7
        have k47 := hk5.non_trans k57
        have hu1' := hu1.keepN k47
        repeat (first
          | refine x_move rfl rfl rfl trivial ?_
          | refine x_assign rfl rfl rfl trivial ?_
          | refine x_add rfl rfl rfl (wrap_i64 (by omega) (by omega)) rfl trivial ?_
          | refine x_sub_ rfl rfl rfl (wrap_i64 (by omega) (by omega)) rfl trivial ?_
          | refine x_mul rfl rfl rfl (wrap_i64 (by omega) (by omega)) rfl trivial ?_
          | refine x_ibin rfl rfl rfl rfl rfl trivial ?_
          | refine x_neg_ rfl rfl (wrap_i64 (by omega) (by omega)) rfl trivial ?_
          | refine x_len rfl rfl (by assumption) rfl trivial ?_
          | refine x_pick_t rfl rfl rfl rfl trivial ?_
          | refine x_pick_f rfl rfl rfl rfl trivial ?_
          | refine x_not rfl rfl rfl trivial ?_
          | refine x_beq rfl rfl rfl rfl trivial ?_
          | refine x_bne rfl rfl rfl rfl trivial ?_
          | refine x_extract rfl rfl rfl rfl trivial ?_
          | refine x_nilCheck rfl rfl rfl trivial ?_
          | refine x_fieldAddr rfl rfl rfl rfl trivial ?_
          | refine x_skip trivial rfl rfl rfl ?_
          | refine x_indexAddr1 rfl rfl rfl (by assumption) (by omega) (by omega) rfl trivial ?_
          | refine x_indexAddr rfl rfl rfl (by assumption) (by omega) (by omega) rfl trivial ?_
          | refine x_nil ?_
          | refine cw_seq ?_
          | refine nw_seq ?_
          | refine nw_block ?_
          | refine cw_block ?_
          | refine cw_skip ?_
          | refine cw_region ?_
          | refine cw_exit rfl ?_
          | refine cw_true rfl ?_
          | refine cw_false rfl ?_)
        refine x_call rfl rfl rfl trivial (law_SamePairs hu1'.ps (hu2.keepN k57)) ?_
        rintro _ _ ⟨rfl, rfl⟩
        refine ⟨trivial, ?_⟩
        repeat (first
          | refine x_move rfl rfl rfl trivial ?_
          | refine x_assign rfl rfl rfl trivial ?_
          | refine x_add rfl rfl rfl (wrap_i64 (by omega) (by omega)) rfl trivial ?_
          | refine x_sub_ rfl rfl rfl (wrap_i64 (by omega) (by omega)) rfl trivial ?_
          | refine x_mul rfl rfl rfl (wrap_i64 (by omega) (by omega)) rfl trivial ?_
          | refine x_ibin rfl rfl rfl rfl rfl trivial ?_
          | refine x_neg_ rfl rfl (wrap_i64 (by omega) (by omega)) rfl trivial ?_
          | refine x_len rfl rfl (by assumption) rfl trivial ?_
          | refine x_pick_t rfl rfl rfl rfl trivial ?_
          | refine x_pick_f rfl rfl rfl rfl trivial ?_
          | refine x_not rfl rfl rfl trivial ?_
          | refine x_beq rfl rfl rfl rfl trivial ?_
          | refine x_bne rfl rfl rfl rfl trivial ?_
          | refine x_extract rfl rfl rfl rfl trivial ?_
          | refine x_nilCheck rfl rfl rfl trivial ?_
          | refine x_fieldAddr rfl rfl rfl rfl trivial ?_
          | refine x_skip trivial rfl rfl rfl ?_
          | refine x_indexAddr1 rfl rfl rfl (by assumption) (by omega) (by omega) rfl trivial ?_
          | refine x_indexAddr rfl rfl rfl (by assumption) (by omega) (by omega) rfl trivial ?_
          | refine x_nil ?_
          | refine cw_seq ?_
          | refine nw_seq ?_
          | refine nw_block ?_
          | refine cw_block ?_
          | refine cw_skip ?_
          | refine cw_region ?_
          | refine cw_exit rfl ?_
          | refine cw_true rfl ?_
          | refine cw_false rfl ?_)
        refine x_true 82 rfl (by simp) ?_
        repeat (first
          | refine x_move rfl rfl rfl trivial ?_
          | refine x_assign rfl rfl rfl trivial ?_
          | refine x_add rfl rfl rfl (wrap_i64 (by omega) (by omega)) rfl trivial ?_
          | refine x_sub_ rfl rfl rfl (wrap_i64 (by omega) (by omega)) rfl trivial ?_
          | refine x_mul rfl rfl rfl (wrap_i64 (by omega) (by omega)) rfl trivial ?_
          | refine x_ibin rfl rfl rfl rfl rfl trivial ?_
          | refine x_neg_ rfl rfl (wrap_i64 (by omega) (by omega)) rfl trivial ?_
          | refine x_len rfl rfl (by assumption) rfl trivial ?_
          | refine x_pick_t rfl rfl rfl rfl trivial ?_
          | refine x_pick_f rfl rfl rfl rfl trivial ?_
          | refine x_not rfl rfl rfl trivial ?_
          | refine x_beq rfl rfl rfl rfl trivial ?_
          | refine x_bne rfl rfl rfl rfl trivial ?_
          | refine x_extract rfl rfl rfl rfl trivial ?_
          | refine x_nilCheck rfl rfl rfl trivial ?_
          | refine x_fieldAddr rfl rfl rfl rfl trivial ?_
          | refine x_skip trivial rfl rfl rfl ?_
          | refine x_indexAddr1 rfl rfl rfl (by assumption) (by omega) (by omega) rfl trivial ?_
          | refine x_indexAddr rfl rfl rfl (by assumption) (by omega) (by omega) rfl trivial ?_
          | refine x_nil ?_
          | refine cw_seq ?_
          | refine nw_seq ?_
          | refine nw_block ?_
          | refine cw_block ?_
          | refine cw_skip ?_
          | refine cw_region ?_
          | refine cw_exit rfl ?_
          | refine cw_true rfl ?_
          | refine cw_false rfl ?_)
        refine x_true 87 rfl (by simp) ?_
        repeat (first
          | refine x_move rfl rfl rfl trivial ?_
          | refine x_assign rfl rfl rfl trivial ?_
          | refine x_add rfl rfl rfl (wrap_i64 (by omega) (by omega)) rfl trivial ?_
          | refine x_sub_ rfl rfl rfl (wrap_i64 (by omega) (by omega)) rfl trivial ?_
          | refine x_mul rfl rfl rfl (wrap_i64 (by omega) (by omega)) rfl trivial ?_
          | refine x_ibin rfl rfl rfl rfl rfl trivial ?_
          | refine x_neg_ rfl rfl (wrap_i64 (by omega) (by omega)) rfl trivial ?_
          | refine x_len rfl rfl (by assumption) rfl trivial ?_
          | refine x_pick_t rfl rfl rfl rfl trivial ?_
          | refine x_pick_f rfl rfl rfl rfl trivial ?_
          | refine x_not rfl rfl rfl trivial ?_
          | refine x_beq rfl rfl rfl rfl trivial ?_
          | refine x_bne rfl rfl rfl rfl trivial ?_
          | refine x_extract rfl rfl rfl rfl trivial ?_
          | refine x_nilCheck rfl rfl rfl trivial ?_
          | refine x_fieldAddr rfl rfl rfl rfl trivial ?_
          | refine x_skip trivial rfl rfl rfl ?_
          | refine x_indexAddr1 rfl rfl rfl (by assumption) (by omega) (by omega) rfl trivial ?_
          | refine x_indexAddr rfl rfl rfl (by assumption) (by omega) (by omega) rfl trivial ?_
          | refine x_nil ?_
          | refine cw_seq ?_
          | refine nw_seq ?_
          | refine nw_block ?_
          | refine cw_block ?_
          | refine cw_skip ?_
          | refine cw_region ?_
          | refine cw_exit rfl ?_
          | refine cw_true rfl ?_
          | refine cw_false rfl ?_)
        refine x_call rfl rfl rfl trivial (law_SamePairs (hu3.keepN hk7).ps hu4) ?_
        rintro _ _ ⟨rfl, rfl⟩
        refine ⟨trivial, ?_⟩
        repeat (first
          | refine x_move rfl rfl rfl trivial ?_
          | refine x_assign rfl rfl rfl trivial ?_
          | refine x_add rfl rfl rfl (wrap_i64 (by omega) (by omega)) rfl trivial ?_
          | refine x_sub_ rfl rfl rfl (wrap_i64 (by omega) (by omega)) rfl trivial ?_
          | refine x_mul rfl rfl rfl (wrap_i64 (by omega) (by omega)) rfl trivial ?_
          | refine x_ibin rfl rfl rfl rfl rfl trivial ?_
          | refine x_neg_ rfl rfl (wrap_i64 (by omega) (by omega)) rfl trivial ?_
          | refine x_len rfl rfl (by assumption) rfl trivial ?_
          | refine x_pick_t rfl rfl rfl rfl trivial ?_
          | refine x_pick_f rfl rfl rfl rfl trivial ?_
          | refine x_not rfl rfl rfl trivial ?_
          | refine x_beq rfl rfl rfl rfl trivial ?_
          | refine x_bne rfl rfl rfl rfl trivial ?_
          | refine x_extract rfl rfl rfl rfl trivial ?_
          | refine x_nilCheck rfl rfl rfl trivial ?_
          | refine x_fieldAddr rfl rfl rfl rfl trivial ?_
          | refine x_skip trivial rfl rfl rfl ?_
          | refine x_indexAddr1 rfl rfl rfl (by assumption) (by omega) (by omega) rfl trivial ?_
          | refine x_indexAddr rfl rfl rfl (by assumption) (by omega) (by omega) rfl trivial ?_
          | refine x_nil ?_
          | refine cw_seq ?_
          | refine nw_seq ?_
          | refine nw_block ?_
          | refine cw_block ?_
          | refine cw_skip ?_
          | refine cw_region ?_
          | refine cw_exit rfl ?_
          | refine cw_true rfl ?_
          | refine cw_false rfl ?_)
        refine x_true 92 rfl (by simp) ?_
        repeat (first
          | refine x_move rfl rfl rfl trivial ?_
          | refine x_assign rfl rfl rfl trivial ?_
          | refine x_add rfl rfl rfl (wrap_i64 (by omega) (by omega)) rfl trivial ?_
          | refine x_sub_ rfl rfl rfl (wrap_i64 (by omega) (by omega)) rfl trivial ?_
          | refine x_mul rfl rfl rfl (wrap_i64 (by omega) (by omega)) rfl trivial ?_
          | refine x_ibin rfl rfl rfl rfl rfl trivial ?_
          | refine x_neg_ rfl rfl (wrap_i64 (by omega) (by omega)) rfl trivial ?_
          | refine x_len rfl rfl (by assumption) rfl trivial ?_
          | refine x_pick_t rfl rfl rfl rfl trivial ?_
          | refine x_pick_f rfl rfl rfl rfl trivial ?_
          | refine x_not rfl rfl rfl trivial ?_
          | refine x_beq rfl rfl rfl rfl trivial ?_
          | refine x_bne rfl rfl rfl rfl trivial ?_
          | refine x_extract rfl rfl rfl rfl trivial ?_
          | refine x_nilCheck rfl rfl rfl trivial ?_
          | refine x_fieldAddr rfl rfl rfl rfl trivial ?_
          | refine x_skip trivial rfl rfl rfl ?_
          | refine x_indexAddr1 rfl rfl rfl (by assumption) (by omega) (by omega) rfl trivial ?_
          | refine x_indexAddr rfl rfl rfl (by assumption) (by omega) (by omega) rfl trivial ?_
          | refine x_nil ?_
          | refine cw_seq ?_
          | refine nw_seq ?_
          | refine nw_block ?_
          | refine cw_block ?_
          | refine cw_skip ?_
          | refine cw_region ?_
          | refine cw_exit rfl ?_
          | refine cw_true rfl ?_
          | refine cw_false rfl ?_)
        refine x_true 97 rfl (by simp) ?_
        repeat (first
          | refine x_move rfl rfl rfl trivial ?_
          | refine x_assign rfl rfl rfl trivial ?_
          | refine x_add rfl rfl rfl (wrap_i64 (by omega) (by omega)) rfl trivial ?_
          | refine x_sub_ rfl rfl rfl (wrap_i64 (by omega) (by omega)) rfl trivial ?_
          | refine x_mul rfl rfl rfl (wrap_i64 (by omega) (by omega)) rfl trivial ?_
          | refine x_ibin rfl rfl rfl rfl rfl trivial ?_
          | refine x_neg_ rfl rfl (wrap_i64 (by omega) (by omega)) rfl trivial ?_
          | refine x_len rfl rfl (by assumption) rfl trivial ?_
          | refine x_pick_t rfl rfl rfl rfl trivial ?_
          | refine x_pick_f rfl rfl rfl rfl trivial ?_
          | refine x_not rfl rfl rfl trivial ?_
          | refine x_beq rfl rfl rfl rfl trivial ?_
          | refine x_bne rfl rfl rfl rfl trivial ?_
          | refine x_extract rfl rfl rfl rfl trivial ?_
          | refine x_nilCheck rfl rfl rfl trivial ?_
          | refine x_fieldAddr rfl rfl rfl rfl trivial ?_
          | refine x_skip trivial rfl rfl rfl ?_
          | refine x_indexAddr1 rfl rfl rfl (by assumption) (by omega) (by omega) rfl trivial ?_
          | refine x_indexAddr rfl rfl rfl (by assumption) (by omega) (by omega) rfl trivial ?_
          | refine x_nil ?_
          | refine cw_seq ?_
          | refine nw_seq ?_
          | refine nw_block ?_
          | refine cw_block ?_
          | refine cw_skip ?_
          | refine cw_region ?_
          | refine cw_exit rfl ?_
          | refine cw_true rfl ?_
          | refine cw_false rfl ?_)
        refine x_call rfl rfl rfl trivial (merge_Value policy x y H7) ?_
        rintro _ _ ⟨rfl, rfl⟩
        refine ⟨trivial, ?_⟩
        repeat (first
          | refine x_move rfl rfl rfl trivial ?_
          | refine x_assign rfl rfl rfl trivial ?_
          | refine x_add rfl rfl rfl (wrap_i64 (by omega) (by omega)) rfl trivial ?_
          | refine x_sub_ rfl rfl rfl (wrap_i64 (by omega) (by omega)) rfl trivial ?_
          | refine x_mul rfl rfl rfl (wrap_i64 (by omega) (by omega)) rfl trivial ?_
          | refine x_ibin rfl rfl rfl rfl rfl trivial ?_
          | refine x_neg_ rfl rfl (wrap_i64 (by omega) (by omega)) rfl trivial ?_
          | refine x_len rfl rfl (by assumption) rfl trivial ?_
          | refine x_pick_t rfl rfl rfl rfl trivial ?_
          | refine x_pick_f rfl rfl rfl rfl trivial ?_
          | refine x_not rfl rfl rfl trivial ?_
          | refine x_beq rfl rfl rfl rfl trivial ?_
          | refine x_bne rfl rfl rfl rfl trivial ?_
          | refine x_extract rfl rfl rfl rfl trivial ?_
          | refine x_nilCheck rfl rfl rfl trivial ?_
          | refine x_fieldAddr rfl rfl rfl rfl trivial ?_
          | refine x_skip trivial rfl rfl rfl ?_
          | refine x_indexAddr1 rfl rfl rfl (by assumption) (by omega) (by omega) rfl trivial ?_
          | refine x_indexAddr rfl rfl rfl (by assumption) (by omega) (by omega) rfl trivial ?_
          | refine x_nil ?_
          | refine cw_seq ?_
          | refine nw_seq ?_
          | refine nw_block ?_
          | refine cw_block ?_
          | refine cw_skip ?_
          | refine cw_region ?_
          | refine cw_exit rfl ?_
          | refine cw_true rfl ?_
          | refine cw_false rfl ?_)
        refine x_call rfl rfl rfl trivial (ref_Value policy x y H7) ?_
        rintro _ _ ⟨rfl, rfl⟩
        refine ⟨trivial, ?_⟩
        repeat (first
          | refine x_move rfl rfl rfl trivial ?_
          | refine x_assign rfl rfl rfl trivial ?_
          | refine x_add rfl rfl rfl (wrap_i64 (by omega) (by omega)) rfl trivial ?_
          | refine x_sub_ rfl rfl rfl (wrap_i64 (by omega) (by omega)) rfl trivial ?_
          | refine x_mul rfl rfl rfl (wrap_i64 (by omega) (by omega)) rfl trivial ?_
          | refine x_ibin rfl rfl rfl rfl rfl trivial ?_
          | refine x_neg_ rfl rfl (wrap_i64 (by omega) (by omega)) rfl trivial ?_
          | refine x_len rfl rfl (by assumption) rfl trivial ?_
          | refine x_pick_t rfl rfl rfl rfl trivial ?_
          | refine x_pick_f rfl rfl rfl rfl trivial ?_
          | refine x_not rfl rfl rfl trivial ?_
          | refine x_beq rfl rfl rfl rfl trivial ?_
          | refine x_bne rfl rfl rfl rfl trivial ?_
          | refine x_extract rfl rfl rfl rfl trivial ?_
          | refine x_nilCheck rfl rfl rfl trivial ?_
          | refine x_fieldAddr rfl rfl rfl rfl trivial ?_
          | refine x_skip trivial rfl rfl rfl ?_
          | refine x_indexAddr1 rfl rfl rfl (by assumption) (by omega) (by omega) rfl trivial ?_
          | refine x_indexAddr rfl rfl rfl (by assumption) (by omega) (by omega) rfl trivial ?_
          | refine x_nil ?_
          | refine cw_seq ?_
          | refine nw_seq ?_
          | refine nw_block ?_
          | refine cw_block ?_
          | refine cw_skip ?_
          | refine cw_region ?_
          | refine cw_exit rfl ?_
          | refine cw_true rfl ?_
          | refine cw_false rfl ?_)
        refine x_call rfl rfl rfl trivial (law_OverPairs hu1' (mof_length (by omega)) (mof_keys ga gb)) ?_
        rintro _ H8 ⟨rfl, hk8⟩
        refine ⟨trivial, ?_⟩
        have k38 := k37.old hk8 (fun b hb e => by omega)
        repeat (first
          | refine x_move rfl rfl rfl trivial ?_
          | refine x_assign rfl rfl rfl trivial ?_
          | refine x_add rfl rfl rfl (wrap_i64 (by omega) (by omega)) rfl trivial ?_
          | refine x_sub_ rfl rfl rfl (wrap_i64 (by omega) (by omega)) rfl trivial ?_
          | refine x_mul rfl rfl rfl (wrap_i64 (by omega) (by omega)) rfl trivial ?_
          | refine x_ibin rfl rfl rfl rfl rfl trivial ?_
          | refine x_neg_ rfl rfl (wrap_i64 (by omega) (by omega)) rfl trivial ?_
          | refine x_len rfl rfl (by assumption) rfl trivial ?_
          | refine x_pick_t rfl rfl rfl rfl trivial ?_
          | refine x_pick_f rfl rfl rfl rfl trivial ?_
          | refine x_not rfl rfl rfl trivial ?_
          | refine x_beq rfl rfl rfl rfl trivial ?_
          | refine x_bne rfl rfl rfl rfl trivial ?_
          | refine x_extract rfl rfl rfl rfl trivial ?_
          | refine x_nilCheck rfl rfl rfl trivial ?_
          | refine x_fieldAddr rfl rfl rfl rfl trivial ?_
          | refine x_skip trivial rfl rfl rfl ?_
          | refine x_indexAddr1 rfl rfl rfl (by assumption) (by omega) (by omega) rfl trivial ?_
          | refine x_indexAddr rfl rfl rfl (by assumption) (by omega) (by omega) rfl trivial ?_
          | refine x_nil ?_
          | refine cw_seq ?_
          | refine nw_seq ?_
          | refine nw_block ?_
          | refine cw_block ?_
          | refine cw_skip ?_
          | refine cw_region ?_
          | refine cw_exit rfl ?_
          | refine cw_true rfl ?_
          | refine cw_false rfl ?_)
        refine x_true 111 rfl (by simp) ?_
        repeat (first
          | refine x_move rfl rfl rfl trivial ?_
          | refine x_assign rfl rfl rfl trivial ?_
          | refine x_add rfl rfl rfl (wrap_i64 (by omega) (by omega)) rfl trivial ?_
          | refine x_sub_ rfl rfl rfl (wrap_i64 (by omega) (by omega)) rfl trivial ?_
          | refine x_mul rfl rfl rfl (wrap_i64 (by omega) (by omega)) rfl trivial ?_
          | refine x_ibin rfl rfl rfl rfl rfl trivial ?_
          | refine x_neg_ rfl rfl (wrap_i64 (by omega) (by omega)) rfl trivial ?_
          | refine x_len rfl rfl (by assumption) rfl trivial ?_
          | refine x_pick_t rfl rfl rfl rfl trivial ?_
          | refine x_pick_f rfl rfl rfl rfl trivial ?_
          | refine x_not rfl rfl rfl trivial ?_
          | refine x_beq rfl rfl rfl rfl trivial ?_
          | refine x_bne rfl rfl rfl rfl trivial ?_
          | refine x_extract rfl rfl rfl rfl trivial ?_
          | refine x_nilCheck rfl rfl rfl trivial ?_
          | refine x_fieldAddr rfl rfl rfl rfl trivial ?_
          | refine x_skip trivial rfl rfl rfl ?_
          | refine x_indexAddr1 rfl rfl rfl (by assumption) (by omega) (by omega) rfl trivial ?_
          | refine x_indexAddr rfl rfl rfl (by assumption) (by omega) (by omega) rfl trivial ?_
          | refine x_nil ?_
          | refine cw_seq ?_
          | refine nw_seq ?_
          | refine nw_block ?_
          | refine cw_block ?_
          | refine cw_skip ?_
          | refine cw_region ?_
          | refine cw_exit rfl ?_
          | refine cw_true rfl ?_
          | refine cw_false rfl ?_)
        refine x_call rfl rfl rfl trivial (law_SamePairs (hc1.keepN k38) (hPa3.keepN k38)) ?_
        rintro _ _ ⟨rfl, rfl⟩
        refine ⟨trivial, ?_⟩
        repeat (first
          | refine x_move rfl rfl rfl trivial ?_
          | refine x_assign rfl rfl rfl trivial ?_
          | refine x_add rfl rfl rfl (wrap_i64 (by omega) (by omega)) rfl trivial ?_
          | refine x_sub_ rfl rfl rfl (wrap_i64 (by omega) (by omega)) rfl trivial ?_
          | refine x_mul rfl rfl rfl (wrap_i64 (by omega) (by omega)) rfl trivial ?_
          | refine x_ibin rfl rfl rfl rfl rfl trivial ?_
          | refine x_neg_ rfl rfl (wrap_i64 (by omega) (by omega)) rfl trivial ?_
          | refine x_len rfl rfl (by assumption) rfl trivial ?_
          | refine x_pick_t rfl rfl rfl rfl trivial ?_
          | refine x_pick_f rfl rfl rfl rfl trivial ?_
          | refine x_not rfl rfl rfl trivial ?_
          | refine x_beq rfl rfl rfl rfl trivial ?_
          | refine x_bne rfl rfl rfl rfl trivial ?_
          | refine x_extract rfl rfl rfl rfl trivial ?_
          | refine x_nilCheck rfl rfl rfl trivial ?_
          | refine x_fieldAddr rfl rfl rfl rfl trivial ?_
          | refine x_skip trivial rfl rfl rfl ?_
          | refine x_indexAddr1 rfl rfl rfl (by assumption) (by omega) (by omega) rfl trivial ?_
          | refine x_indexAddr rfl rfl rfl (by assumption) (by omega) (by omega) rfl trivial ?_
          | refine x_nil ?_
          | refine cw_seq ?_
          | refine nw_seq ?_
          | refine nw_block ?_
          | refine cw_block ?_
          | refine cw_skip ?_
          | refine cw_region ?_
          | refine cw_exit rfl ?_
          | refine cw_true rfl ?_
          | refine cw_false rfl ?_)
        refine x_true 116 rfl (by simp) ?_
        repeat (first
          | refine x_move rfl rfl rfl trivial ?_
          | refine x_assign rfl rfl rfl trivial ?_
          | refine x_add rfl rfl rfl (wrap_i64 (by omega) (by omega)) rfl trivial ?_
          | refine x_sub_ rfl rfl rfl (wrap_i64 (by omega) (by omega)) rfl trivial ?_
          | refine x_mul rfl rfl rfl (wrap_i64 (by omega) (by omega)) rfl trivial ?_
          | refine x_ibin rfl rfl rfl rfl rfl trivial ?_
          | refine x_neg_ rfl rfl (wrap_i64 (by omega) (by omega)) rfl trivial ?_
          | refine x_len rfl rfl (by assumption) rfl trivial ?_
          | refine x_pick_t rfl rfl rfl rfl trivial ?_
          | refine x_pick_f rfl rfl rfl rfl trivial ?_
          | refine x_not rfl rfl rfl trivial ?_
          | refine x_beq rfl rfl rfl rfl trivial ?_
          | refine x_bne rfl rfl rfl rfl trivial ?_
          | refine x_extract rfl rfl rfl rfl trivial ?_
          | refine x_nilCheck rfl rfl rfl trivial ?_
          | refine x_fieldAddr rfl rfl rfl rfl trivial ?_
          | refine x_skip trivial rfl rfl rfl ?_
          | refine x_indexAddr1 rfl rfl rfl (by assumption) (by omega) (by omega) rfl trivial ?_
          | refine x_indexAddr rfl rfl rfl (by assumption) (by omega) (by omega) rfl trivial ?_
          | refine x_nil ?_
          | refine cw_seq ?_
          | refine nw_seq ?_
          | refine nw_block ?_
          | refine cw_block ?_
          | refine cw_skip ?_
          | refine cw_region ?_
          | refine cw_exit rfl ?_
          | refine cw_true rfl ?_
          | refine cw_false rfl ?_)
        refine x_call rfl rfl rfl trivial (law_SamePairs (hc2.keepN k38) (hPb3.keepN k38)) ?_
        rintro _ _ ⟨rfl, rfl⟩
        refine ⟨trivial, ?_⟩
        repeat (first
          | refine x_move rfl rfl rfl trivial ?_
          | refine x_assign rfl rfl rfl trivial ?_
          | refine x_add rfl rfl rfl (wrap_i64 (by omega) (by omega)) rfl trivial ?_
          | refine x_sub_ rfl rfl rfl (wrap_i64 (by omega) (by omega)) rfl trivial ?_
          | refine x_mul rfl rfl rfl (wrap_i64 (by omega) (by omega)) rfl trivial ?_
          | refine x_ibin rfl rfl rfl rfl rfl trivial ?_
          | refine x_neg_ rfl rfl (wrap_i64 (by omega) (by omega)) rfl trivial ?_
          | refine x_len rfl rfl (by assumption) rfl trivial ?_
          | refine x_pick_t rfl rfl rfl rfl trivial ?_
          | refine x_pick_f rfl rfl rfl rfl trivial ?_
          | refine x_not rfl rfl rfl trivial ?_
          | refine x_beq rfl rfl rfl rfl trivial ?_
          | refine x_bne rfl rfl rfl rfl trivial ?_
          | refine x_extract rfl rfl rfl rfl trivial ?_
          | refine x_nilCheck rfl rfl rfl trivial ?_
          | refine x_fieldAddr rfl rfl rfl rfl trivial ?_
          | refine x_skip trivial rfl rfl rfl ?_
          | refine x_indexAddr1 rfl rfl rfl (by assumption) (by omega) (by omega) rfl trivial ?_
          | refine x_indexAddr rfl rfl rfl (by assumption) (by omega) (by omega) rfl trivial ?_
          | refine x_nil ?_
          | refine cw_seq ?_
          | refine nw_seq ?_
          | refine nw_block ?_
          | refine cw_block ?_
          | refine cw_skip ?_
          | refine cw_region ?_
          | refine cw_exit rfl ?_
          | refine cw_true rfl ?_
          | refine cw_false rfl ?_)
        refine x_true 121 rfl (by simp) ?_
        repeat (first
          | refine x_move rfl rfl rfl trivial ?_
          | refine x_assign rfl rfl rfl trivial ?_
          | refine x_add rfl rfl rfl (wrap_i64 (by omega) (by omega)) rfl trivial ?_
          | refine x_sub_ rfl rfl rfl (wrap_i64 (by omega) (by omega)) rfl trivial ?_
          | refine x_mul rfl rfl rfl (wrap_i64 (by omega) (by omega)) rfl trivial ?_
          | refine x_ibin rfl rfl rfl rfl rfl trivial ?_
          | refine x_neg_ rfl rfl (wrap_i64 (by omega) (by omega)) rfl trivial ?_
          | refine x_len rfl rfl (by assumption) rfl trivial ?_
          | refine x_pick_t rfl rfl rfl rfl trivial ?_
          | refine x_pick_f rfl rfl rfl rfl trivial ?_
          | refine x_not rfl rfl rfl trivial ?_
          | refine x_beq rfl rfl rfl rfl trivial ?_
          | refine x_bne rfl rfl rfl rfl trivial ?_
          | refine x_extract rfl rfl rfl rfl trivial ?_
          | refine x_nilCheck rfl rfl rfl trivial ?_
          | refine x_fieldAddr rfl rfl rfl rfl trivial ?_
          | refine x_skip trivial rfl rfl rfl ?_
          | refine x_indexAddr1 rfl rfl rfl (by assumption) (by omega) (by omega) rfl trivial ?_
          | refine x_indexAddr rfl rfl rfl (by assumption) (by omega) (by omega) rfl trivial ?_
          | refine x_nil ?_
          | refine cw_seq ?_
          | refine nw_seq ?_
          | refine nw_block ?_
          | refine cw_block ?_
          | refine cw_skip ?_
          | refine cw_region ?_
          | refine cw_exit rfl ?_
          | refine cw_true rfl ?_
          | refine cw_false rfl ?_)
        refine x_call rfl rfl rfl trivial (awake19 _) ?_
        rintro _ Hz ⟨rfl, hkz⟩
        refine ⟨trivial, ?_⟩
        repeat (first
          | refine x_move rfl rfl rfl trivial ?_
          | refine x_assign rfl rfl rfl trivial ?_
          | refine x_add rfl rfl rfl (wrap_i64 (by omega) (by omega)) rfl trivial ?_
          | refine x_sub_ rfl rfl rfl (wrap_i64 (by omega) (by omega)) rfl trivial ?_
          | refine x_mul rfl rfl rfl (wrap_i64 (by omega) (by omega)) rfl trivial ?_
          | refine x_ibin rfl rfl rfl rfl rfl trivial ?_
          | refine x_neg_ rfl rfl (wrap_i64 (by omega) (by omega)) rfl trivial ?_
          | refine x_len rfl rfl (by assumption) rfl trivial ?_
          | refine x_pick_t rfl rfl rfl rfl trivial ?_
          | refine x_pick_f rfl rfl rfl rfl trivial ?_
          | refine x_not rfl rfl rfl trivial ?_
          | refine x_beq rfl rfl rfl rfl trivial ?_
          | refine x_bne rfl rfl rfl rfl trivial ?_
          | refine x_extract rfl rfl rfl rfl trivial ?_
          | refine x_nilCheck rfl rfl rfl trivial ?_
          | refine x_fieldAddr rfl rfl rfl rfl trivial ?_
          | refine x_skip trivial rfl rfl rfl ?_
          | refine x_indexAddr1 rfl rfl rfl (by assumption) (by omega) (by omega) rfl trivial ?_
          | refine x_indexAddr rfl rfl rfl (by assumption) (by omega) (by omega) rfl trivial ?_
          | refine x_nil ?_
          | refine cw_seq ?_
          | refine nw_seq ?_
          | refine nw_block ?_
          | refine cw_block ?_
          | refine cw_skip ?_
          | refine cw_region ?_
          | refine cw_exit rfl ?_
          | refine cw_true rfl ?_
          | refine cw_false rfl ?_)
        exact cw_ret1 rfl rfl ⟨rfl, (hk1.non_trans (k13.non_trans k38)).non_trans hkz⟩

theorem mof_ok {op policy : Int} {a b : List Pr} (h1 : 1 ≤ op ∧ op ≤ 3) (h2 : 1 ≤ policy ∧ policy ≤ 3) (ha : rises a = true) (hb : rises b = true) : mof op policy a b = (some (mrg op policy a b), 0) := by
  have h12 : ¬ (¬ (1 ≤ op ∧ op ≤ 3) ∨ ¬ (1 ≤ policy ∧ policy ≤ 3)) := fun h => h.elim (fun h => h h1) (fun h => h h2)
  have h34 : ¬ (rises a = false ∨ rises b = false) := by rw [ha, hb]; simp
  simp only [mof, if_neg h12, if_neg h34]
theorem mrg_keys {op policy : Int} {a b : List Pr} {n : Nat} (ha : ∀ r ∈ a, r.1.length ≤ n) (hb : ∀ r ∈ b, r.1.length ≤ n) : ∀ r ∈ mrg op policy a b, r.1.length ≤ n := by
  intro r hr
  rcases mrg_mem hr with ⟨s, h1, h2⟩ | ⟨s, h1, h2⟩
  · rw [← h2]; exact ha s h1
  · rw [← h2]; exact hb s h1

theorem walk_MergeSets {va vb : Value} {la lb : List Pr} {H : Heap} (hA : Ps H va la) (hB : Ps H vb lb) :
    Ret Try.prog 4 [va, vb] H (Yes H) := by
  refine ret_of Try.func4 rfl rfl rfl rfl ?_
  intro w0
  repeat (first
    | refine x_move rfl rfl rfl trivial ?_
    | refine x_assign rfl rfl rfl trivial ?_
    | refine x_add rfl rfl rfl (wrap_i64 (by omega) (by omega)) rfl trivial ?_
    | refine x_sub_ rfl rfl rfl (wrap_i64 (by omega) (by omega)) rfl trivial ?_
    | refine x_mul rfl rfl rfl (wrap_i64 (by omega) (by omega)) rfl trivial ?_
    | refine x_ibin rfl rfl rfl rfl rfl trivial ?_
    | refine x_neg_ rfl rfl (wrap_i64 (by omega) (by omega)) rfl trivial ?_
    | refine x_len rfl rfl (by assumption) rfl trivial ?_
    | refine x_pick_t rfl rfl rfl rfl trivial ?_
    | refine x_pick_f rfl rfl rfl rfl trivial ?_
    | refine x_not rfl rfl rfl trivial ?_
    | refine x_beq rfl rfl rfl rfl trivial ?_
    | refine x_bne rfl rfl rfl rfl trivial ?_
    | refine x_extract rfl rfl rfl rfl trivial ?_
    | refine x_nilCheck rfl rfl rfl trivial ?_
    | refine x_fieldAddr rfl rfl rfl rfl trivial ?_
    | refine x_skip trivial rfl rfl rfl ?_
    | refine x_indexAddr1 rfl rfl rfl (by assumption) (by omega) (by omega) rfl trivial ?_
    | refine x_indexAddr rfl rfl rfl (by assumption) (by omega) (by omega) rfl trivial ?_
    | refine x_nil ?_
    | refine cw_seq ?_
    | refine nw_seq ?_
    | refine nw_block ?_
    | refine cw_block ?_
    | refine cw_skip ?_
    | refine cw_region ?_
    | refine cw_exit rfl ?_
    | refine cw_true rfl ?_
    | refine cw_false rfl ?_)
  refine x_call rfl rfl rfl trivial (law_GreatPairs 30 20 (by omega) hA) ?_
  rintro _ _ ⟨rfl, b1, rfl, h1⟩
  refine ⟨trivial, ?_⟩
  repeat (first
    | refine x_move rfl rfl rfl trivial ?_
    | refine x_assign rfl rfl rfl trivial ?_
    | refine x_add rfl rfl rfl (wrap_i64 (by omega) (by omega)) rfl trivial ?_
    | refine x_sub_ rfl rfl rfl (wrap_i64 (by omega) (by omega)) rfl trivial ?_
    | refine x_mul rfl rfl rfl (wrap_i64 (by omega) (by omega)) rfl trivial ?_
    | refine x_ibin rfl rfl rfl rfl rfl trivial ?_
    | refine x_neg_ rfl rfl (wrap_i64 (by omega) (by omega)) rfl trivial ?_
    | refine x_len rfl rfl (by assumption) rfl trivial ?_
    | refine x_pick_t rfl rfl rfl rfl trivial ?_
    | refine x_pick_f rfl rfl rfl rfl trivial ?_
    | refine x_not rfl rfl rfl trivial ?_
    | refine x_beq rfl rfl rfl rfl trivial ?_
    | refine x_bne rfl rfl rfl rfl trivial ?_
    | refine x_extract rfl rfl rfl rfl trivial ?_
    | refine x_nilCheck rfl rfl rfl trivial ?_
    | refine x_fieldAddr rfl rfl rfl rfl trivial ?_
    | refine x_skip trivial rfl rfl rfl ?_
    | refine x_indexAddr1 rfl rfl rfl (by assumption) (by omega) (by omega) rfl trivial ?_
    | refine x_indexAddr rfl rfl rfl (by assumption) (by omega) (by omega) rfl trivial ?_
    | refine x_nil ?_
    | refine cw_seq ?_
    | refine nw_seq ?_
    | refine nw_block ?_
    | refine cw_block ?_
    | refine cw_skip ?_
    | refine cw_region ?_
    | refine cw_exit rfl ?_
    | refine cw_true rfl ?_
    | refine cw_false rfl ?_)
  cases b1 with
  | true =>
    repeat (first
      | refine x_move rfl rfl rfl trivial ?_
      | refine x_assign rfl rfl rfl trivial ?_
      | refine x_add rfl rfl rfl (wrap_i64 (by omega) (by omega)) rfl trivial ?_
      | refine x_sub_ rfl rfl rfl (wrap_i64 (by omega) (by omega)) rfl trivial ?_
      | refine x_mul rfl rfl rfl (wrap_i64 (by omega) (by omega)) rfl trivial ?_
      | refine x_ibin rfl rfl rfl rfl rfl trivial ?_
      | refine x_neg_ rfl rfl (wrap_i64 (by omega) (by omega)) rfl trivial ?_
      | refine x_len rfl rfl (by assumption) rfl trivial ?_
      | refine x_pick_t rfl rfl rfl rfl trivial ?_
      | refine x_pick_f rfl rfl rfl rfl trivial ?_
      | refine x_not rfl rfl rfl trivial ?_
      | refine x_beq rfl rfl rfl rfl trivial ?_
      | refine x_bne rfl rfl rfl rfl trivial ?_
      | refine x_extract rfl rfl rfl rfl trivial ?_
      | refine x_nilCheck rfl rfl rfl trivial ?_
      | refine x_fieldAddr rfl rfl rfl rfl trivial ?_
      | refine x_skip trivial rfl rfl rfl ?_
      | refine x_indexAddr1 rfl rfl rfl (by assumption) (by omega) (by omega) rfl trivial ?_
      | refine x_indexAddr rfl rfl rfl (by assumption) (by omega) (by omega) rfl trivial ?_
      | refine x_nil ?_
      | refine cw_seq ?_
      | refine nw_seq ?_
      | refine nw_block ?_
      | refine cw_block ?_
      | refine cw_skip ?_
      | refine cw_region ?_
      | refine cw_exit rfl ?_
      | refine cw_true rfl ?_
      | refine cw_false rfl ?_)
    refine x_call rfl rfl rfl trivial (awake19 _) ?_
    rintro _ Hz ⟨rfl, hkz⟩
    refine ⟨trivial, ?_⟩
    repeat (first
      | refine x_move rfl rfl rfl trivial ?_
      | refine x_assign rfl rfl rfl trivial ?_
      | refine x_add rfl rfl rfl (wrap_i64 (by omega) (by omega)) rfl trivial ?_
      | refine x_sub_ rfl rfl rfl (wrap_i64 (by omega) (by omega)) rfl trivial ?_
      | refine x_mul rfl rfl rfl (wrap_i64 (by omega) (by omega)) rfl trivial ?_
      | refine x_ibin rfl rfl rfl rfl rfl trivial ?_
      | refine x_neg_ rfl rfl (wrap_i64 (by omega) (by omega)) rfl trivial ?_
      | refine x_len rfl rfl (by assumption) rfl trivial ?_
      | refine x_pick_t rfl rfl rfl rfl trivial ?_
      | refine x_pick_f rfl rfl rfl rfl trivial ?_
      | refine x_not rfl rfl rfl trivial ?_
      | refine x_beq rfl rfl rfl rfl trivial ?_
      | refine x_bne rfl rfl rfl rfl trivial ?_
      | refine x_extract rfl rfl rfl rfl trivial ?_
      | refine x_nilCheck rfl rfl rfl trivial ?_
      | refine x_fieldAddr rfl rfl rfl rfl trivial ?_
      | refine x_skip trivial rfl rfl rfl ?_
      | refine x_indexAddr1 rfl rfl rfl (by assumption) (by omega) (by omega) rfl trivial ?_
      | refine x_indexAddr rfl rfl rfl (by assumption) (by omega) (by omega) rfl trivial ?_
      | refine x_nil ?_
      | refine cw_seq ?_
      | refine nw_seq ?_
      | refine nw_block ?_
      | refine cw_block ?_
      | refine cw_skip ?_
      | refine cw_region ?_
      | refine cw_exit rfl ?_
      | refine cw_true rfl ?_
      | refine cw_false rfl ?_)
    exact cw_ret1 rfl rfl ⟨rfl, (Keep.refl Non H).non_trans hkz⟩
  | false =>
    obtain ⟨hla, hka⟩ := h1 rfl
    repeat (first
      | refine x_move rfl rfl rfl trivial ?_
      | refine x_assign rfl rfl rfl trivial ?_
      | refine x_add rfl rfl rfl (wrap_i64 (by omega) (by omega)) rfl trivial ?_
      | refine x_sub_ rfl rfl rfl (wrap_i64 (by omega) (by omega)) rfl trivial ?_
      | refine x_mul rfl rfl rfl (wrap_i64 (by omega) (by omega)) rfl trivial ?_
      | refine x_ibin rfl rfl rfl rfl rfl trivial ?_
      | refine x_neg_ rfl rfl (wrap_i64 (by omega) (by omega)) rfl trivial ?_
      | refine x_len rfl rfl (by assumption) rfl trivial ?_
      | refine x_pick_t rfl rfl rfl rfl trivial ?_
      | refine x_pick_f rfl rfl rfl rfl trivial ?_
      | refine x_not rfl rfl rfl trivial ?_
      | refine x_beq rfl rfl rfl rfl trivial ?_
      | refine x_bne rfl rfl rfl rfl trivial ?_
      | refine x_extract rfl rfl rfl rfl trivial ?_
      | refine x_nilCheck rfl rfl rfl trivial ?_
      | refine x_fieldAddr rfl rfl rfl rfl trivial ?_
      | refine x_skip trivial rfl rfl rfl ?_
      | refine x_indexAddr1 rfl rfl rfl (by assumption) (by omega) (by omega) rfl trivial ?_
      | refine x_indexAddr rfl rfl rfl (by assumption) (by omega) (by omega) rfl trivial ?_
      | refine x_nil ?_
      | refine cw_seq ?_
      | refine nw_seq ?_
      | refine nw_block ?_
      | refine cw_block ?_
      | refine cw_skip ?_
      | refine cw_region ?_
      | refine cw_exit rfl ?_
      | refine cw_true rfl ?_
      | refine cw_false rfl ?_)
    refine x_call rfl rfl rfl trivial (law_GreatPairs 30 20 (by omega) hB) ?_
    rintro _ _ ⟨rfl, b2, rfl, h2⟩
    refine ⟨trivial, ?_⟩
    repeat (first
      | refine x_move rfl rfl rfl trivial ?_
      | refine x_assign rfl rfl rfl trivial ?_
      | refine x_add rfl rfl rfl (wrap_i64 (by omega) (by omega)) rfl trivial ?_
      | refine x_sub_ rfl rfl rfl (wrap_i64 (by omega) (by omega)) rfl trivial ?_
      | refine x_mul rfl rfl rfl (wrap_i64 (by omega) (by omega)) rfl trivial ?_
      | refine x_ibin rfl rfl rfl rfl rfl trivial ?_
      | refine x_neg_ rfl rfl (wrap_i64 (by omega) (by omega)) rfl trivial ?_
      | refine x_len rfl rfl (by assumption) rfl trivial ?_
      | refine x_pick_t rfl rfl rfl rfl trivial ?_
      | refine x_pick_f rfl rfl rfl rfl trivial ?_
      | refine x_not rfl rfl rfl trivial ?_
      | refine x_beq rfl rfl rfl rfl trivial ?_
      | refine x_bne rfl rfl rfl rfl trivial ?_
      | refine x_extract rfl rfl rfl rfl trivial ?_
      | refine x_nilCheck rfl rfl rfl trivial ?_
      | refine x_fieldAddr rfl rfl rfl rfl trivial ?_
      | refine x_skip trivial rfl rfl rfl ?_
      | refine x_indexAddr1 rfl rfl rfl (by assumption) (by omega) (by omega) rfl trivial ?_
      | refine x_indexAddr rfl rfl rfl (by assumption) (by omega) (by omega) rfl trivial ?_
      | refine x_nil ?_
      | refine cw_seq ?_
      | refine nw_seq ?_
      | refine nw_block ?_
      | refine cw_block ?_
      | refine cw_skip ?_
      | refine cw_region ?_
      | refine cw_exit rfl ?_
      | refine cw_true rfl ?_
      | refine cw_false rfl ?_)
    cases b2 with
    | true =>
      repeat (first
        | refine x_move rfl rfl rfl trivial ?_
        | refine x_assign rfl rfl rfl trivial ?_
        | refine x_add rfl rfl rfl (wrap_i64 (by omega) (by omega)) rfl trivial ?_
        | refine x_sub_ rfl rfl rfl (wrap_i64 (by omega) (by omega)) rfl trivial ?_
        | refine x_mul rfl rfl rfl (wrap_i64 (by omega) (by omega)) rfl trivial ?_
        | refine x_ibin rfl rfl rfl rfl rfl trivial ?_
        | refine x_neg_ rfl rfl (wrap_i64 (by omega) (by omega)) rfl trivial ?_
        | refine x_len rfl rfl (by assumption) rfl trivial ?_
        | refine x_pick_t rfl rfl rfl rfl trivial ?_
        | refine x_pick_f rfl rfl rfl rfl trivial ?_
        | refine x_not rfl rfl rfl trivial ?_
        | refine x_beq rfl rfl rfl rfl trivial ?_
        | refine x_bne rfl rfl rfl rfl trivial ?_
        | refine x_extract rfl rfl rfl rfl trivial ?_
        | refine x_nilCheck rfl rfl rfl trivial ?_
        | refine x_fieldAddr rfl rfl rfl rfl trivial ?_
        | refine x_skip trivial rfl rfl rfl ?_
        | refine x_indexAddr1 rfl rfl rfl (by assumption) (by omega) (by omega) rfl trivial ?_
        | refine x_indexAddr rfl rfl rfl (by assumption) (by omega) (by omega) rfl trivial ?_
        | refine x_nil ?_
        | refine cw_seq ?_
        | refine nw_seq ?_
        | refine nw_block ?_
        | refine cw_block ?_
        | refine cw_skip ?_
        | refine cw_region ?_
        | refine cw_exit rfl ?_
        | refine cw_true rfl ?_
        | refine cw_false rfl ?_)
      refine x_call rfl rfl rfl trivial (awake19 _) ?_
      rintro _ Hz ⟨rfl, hkz⟩
      refine ⟨trivial, ?_⟩
      repeat (first
        | refine x_move rfl rfl rfl trivial ?_
        | refine x_assign rfl rfl rfl trivial ?_
        | refine x_add rfl rfl rfl (wrap_i64 (by omega) (by omega)) rfl trivial ?_
        | refine x_sub_ rfl rfl rfl (wrap_i64 (by omega) (by omega)) rfl trivial ?_
        | refine x_mul rfl rfl rfl (wrap_i64 (by omega) (by omega)) rfl trivial ?_
        | refine x_ibin rfl rfl rfl rfl rfl trivial ?_
        | refine x_neg_ rfl rfl (wrap_i64 (by omega) (by omega)) rfl trivial ?_
        | refine x_len rfl rfl (by assumption) rfl trivial ?_
        | refine x_pick_t rfl rfl rfl rfl trivial ?_
        | refine x_pick_f rfl rfl rfl rfl trivial ?_
        | refine x_not rfl rfl rfl trivial ?_
        | refine x_beq rfl rfl rfl rfl trivial ?_
        | refine x_bne rfl rfl rfl rfl trivial ?_
        | refine x_extract rfl rfl rfl rfl trivial ?_
        | refine x_nilCheck rfl rfl rfl trivial ?_
        | refine x_fieldAddr rfl rfl rfl rfl trivial ?_
        | refine x_skip trivial rfl rfl rfl ?_
        | refine x_indexAddr1 rfl rfl rfl (by assumption) (by omega) (by omega) rfl trivial ?_
        | refine x_indexAddr rfl rfl rfl (by assumption) (by omega) (by omega) rfl trivial ?_
        | refine x_nil ?_
        | refine cw_seq ?_
        | refine nw_seq ?_
        | refine nw_block ?_
        | refine cw_block ?_
        | refine cw_skip ?_
        | refine cw_region ?_
        | refine cw_exit rfl ?_
        | refine cw_true rfl ?_
        | refine cw_false rfl ?_)
      exact cw_ret1 rfl rfl ⟨rfl, (Keep.refl Non H).non_trans hkz⟩
    | false =>
      obtain ⟨hlb, hkb⟩ := h2 rfl
      repeat (first
        | refine x_move rfl rfl rfl trivial ?_
        | refine x_assign rfl rfl rfl trivial ?_
        | refine x_add rfl rfl rfl (wrap_i64 (by omega) (by omega)) rfl trivial ?_
        | refine x_sub_ rfl rfl rfl (wrap_i64 (by omega) (by omega)) rfl trivial ?_
        | refine x_mul rfl rfl rfl (wrap_i64 (by omega) (by omega)) rfl trivial ?_
        | refine x_ibin rfl rfl rfl rfl rfl trivial ?_
        | refine x_neg_ rfl rfl (wrap_i64 (by omega) (by omega)) rfl trivial ?_
        | refine x_len rfl rfl (by assumption) rfl trivial ?_
        | refine x_pick_t rfl rfl rfl rfl trivial ?_
        | refine x_pick_f rfl rfl rfl rfl trivial ?_
        | refine x_not rfl rfl rfl trivial ?_
        | refine x_beq rfl rfl rfl rfl trivial ?_
        | refine x_bne rfl rfl rfl rfl trivial ?_
        | refine x_extract rfl rfl rfl rfl trivial ?_
        | refine x_nilCheck rfl rfl rfl trivial ?_
        | refine x_fieldAddr rfl rfl rfl rfl trivial ?_
        | refine x_skip trivial rfl rfl rfl ?_
        | refine x_indexAddr1 rfl rfl rfl (by assumption) (by omega) (by omega) rfl trivial ?_
        | refine x_indexAddr rfl rfl rfl (by assumption) (by omega) (by omega) rfl trivial ?_
        | refine x_nil ?_
        | refine cw_seq ?_
        | refine nw_seq ?_
        | refine nw_block ?_
        | refine cw_block ?_
        | refine cw_skip ?_
        | refine cw_exit rfl ?_
        | refine cw_true rfl ?_
        | refine cw_false rfl ?_)
      refine cw_cut (fun (s : Value × Value) => [(0, va), (1, vb), (5, s.1), (6, s.2)]) (fun s H' => Keep Non H H' ∧ Ps H' s.1 (newM la) ∧ Ps H' s.2 (newM lb)) ?_ ?_
      · refine cw_held (fun _ _ => True) ⟨[1, 4, 6, 9], []⟩ (.op 0 (.op 5 (.op 1 (.op 2 (.op 3 (.alt (.op 4 (.op 6 (.op 7 (.op 8 (.op 10 (.op 9 (.op 11 (.nil)))))))) (.op 6 (.op 7 (.op 8 (.alt (.op 4 (.op 10 (.op 9 (.op 11 (.nil))))) (.op 9 (.op 4 (.op 10 (.op 11 (.nil))))))))))))))) panicOk_body mixed (by kernel_rfl) ?_
        repeat (first
          | refine x_move rfl rfl rfl (okq_reg rfl rfl) ?_
          | refine x_assign rfl rfl rfl (okq_reg rfl rfl) ?_
          | refine x_add rfl rfl rfl (wrap_i64 (by omega) (by omega)) rfl (okq_reg rfl rfl) ?_
          | refine x_sub_ rfl rfl rfl (wrap_i64 (by omega) (by omega)) rfl (okq_reg rfl rfl) ?_
          | refine x_mul rfl rfl rfl (wrap_i64 (by omega) (by omega)) rfl (okq_reg rfl rfl) ?_
          | refine x_ibin rfl rfl rfl rfl rfl (okq_reg rfl rfl) ?_
          | refine x_len rfl rfl (by assumption) rfl (okq_reg rfl rfl) ?_
          | refine x_pick_t rfl rfl rfl rfl (okq_reg rfl rfl) ?_
          | refine x_pick_f rfl rfl rfl rfl (okq_reg rfl rfl) ?_
          | refine x_not rfl rfl rfl (okq_reg rfl rfl) ?_
          | refine x_extract rfl rfl rfl rfl (okq_reg rfl rfl) ?_
          | refine x_nilCheck rfl rfl rfl (okq_reg rfl rfl) ?_
          | refine x_fieldAddr rfl rfl rfl rfl (okq_reg rfl rfl) ?_
          | refine x_skip (okq_reg rfl rfl) rfl rfl rfl ?_
          | refine x_indexAddr1 rfl rfl rfl (by assumption) (by omega) (by omega) rfl (okq_reg rfl rfl) ?_
          | refine x_indexAddr rfl rfl rfl (by assumption) (by omega) (by omega) rfl (okq_reg rfl rfl) ?_
          | refine x_nil ?_
          | refine cw_seq ?_
          | refine nw_seq ?_
          | refine nw_block ?_
          | refine cw_block ?_
          | refine cw_skip ?_
          | refine cw_region ?_
          | refine cw_exit rfl ?_
          | refine cw_true rfl ?_
          | refine cw_false rfl ?_)
        refine x_call rfl rfl rfl ⟨rfl, rfl⟩ (ref_New hA (by omega) (fun p hp => by have := hka p hp; omega)) ?_
        rintro _ Ha ⟨ka, ba, rfl, hba, hMa⟩
        refine ⟨okm_nil rfl, ?_⟩
        obtain ⟨ua, hBa, hPa⟩ := hMa.row
        have ca : cel Ha ba 0 = some ua := by rw [hBa.cel]; rfl
        repeat (first
          | refine x_move rfl rfl rfl (okq_reg rfl rfl) ?_
          | refine x_assign rfl rfl rfl (okq_reg rfl rfl) ?_
          | refine x_add rfl rfl rfl (wrap_i64 (by omega) (by omega)) rfl (okq_reg rfl rfl) ?_
          | refine x_sub_ rfl rfl rfl (wrap_i64 (by omega) (by omega)) rfl (okq_reg rfl rfl) ?_
          | refine x_mul rfl rfl rfl (wrap_i64 (by omega) (by omega)) rfl (okq_reg rfl rfl) ?_
          | refine x_ibin rfl rfl rfl rfl rfl (okq_reg rfl rfl) ?_
          | refine x_len rfl rfl (by assumption) rfl (okq_reg rfl rfl) ?_
          | refine x_pick_t rfl rfl rfl rfl (okq_reg rfl rfl) ?_
          | refine x_pick_f rfl rfl rfl rfl (okq_reg rfl rfl) ?_
          | refine x_not rfl rfl rfl (okq_reg rfl rfl) ?_
          | refine x_extract rfl rfl rfl rfl (okq_reg rfl rfl) ?_
          | refine x_nilCheck rfl rfl rfl (okq_reg rfl rfl) ?_
          | refine x_fieldAddr rfl rfl rfl rfl (okq_reg rfl rfl) ?_
          | refine x_skip (okq_reg rfl rfl) rfl rfl rfl ?_
          | refine x_indexAddr1 rfl rfl rfl (by assumption) (by omega) (by omega) rfl (okq_reg rfl rfl) ?_
          | refine x_indexAddr rfl rfl rfl (by assumption) (by omega) (by omega) rfl (okq_reg rfl rfl) ?_
          | refine x_nil ?_
          | refine cw_seq ?_
          | refine nw_seq ?_
          | refine nw_block ?_
          | refine cw_block ?_
          | refine cw_skip ?_
          | refine cw_region ?_
          | refine cw_exit rfl ?_
          | refine cw_true rfl ?_
          | refine cw_false rfl ?_)
        refine x_alt ?_ ?_
        · refine x_load_e rfl rfl ca rfl ⟨rfl, rfl⟩ ?_
          refine x_call rfl rfl rfl ⟨rfl, rfl⟩ (ref_New (hB.keepN ka) (by omega) (fun p hp => by have := hkb p hp; omega)) ?_
          rintro _ Hb ⟨kb, bb, rfl, hbb, hMb⟩
          refine ⟨okm_nil rfl, ?_⟩
          obtain ⟨ub, hBb, hPb⟩ := hMb.row
          have cb : cel Hb bb 0 = some ub := by rw [hBb.cel]; rfl
          repeat (first
            | refine x_move rfl rfl rfl (okq_reg rfl rfl) ?_
            | refine x_assign rfl rfl rfl (okq_reg rfl rfl) ?_
            | refine x_add rfl rfl rfl (wrap_i64 (by omega) (by omega)) rfl (okq_reg rfl rfl) ?_
            | refine x_sub_ rfl rfl rfl (wrap_i64 (by omega) (by omega)) rfl (okq_reg rfl rfl) ?_
            | refine x_mul rfl rfl rfl (wrap_i64 (by omega) (by omega)) rfl (okq_reg rfl rfl) ?_
            | refine x_ibin rfl rfl rfl rfl rfl (okq_reg rfl rfl) ?_
            | refine x_len rfl rfl (by assumption) rfl (okq_reg rfl rfl) ?_
            | refine x_pick_t rfl rfl rfl rfl (okq_reg rfl rfl) ?_
            | refine x_pick_f rfl rfl rfl rfl (okq_reg rfl rfl) ?_
            | refine x_not rfl rfl rfl (okq_reg rfl rfl) ?_
            | refine x_extract rfl rfl rfl rfl (okq_reg rfl rfl) ?_
            | refine x_nilCheck rfl rfl rfl (okq_reg rfl rfl) ?_
            | refine x_fieldAddr rfl rfl rfl rfl (okq_reg rfl rfl) ?_
            | refine x_skip (okq_reg rfl rfl) rfl rfl rfl ?_
            | refine x_indexAddr1 rfl rfl rfl (by assumption) (by omega) (by omega) rfl (okq_reg rfl rfl) ?_
            | refine x_indexAddr rfl rfl rfl (by assumption) (by omega) (by omega) rfl (okq_reg rfl rfl) ?_
            | refine x_nil ?_
            | refine cw_seq ?_
            | refine nw_seq ?_
            | refine nw_block ?_
            | refine cw_block ?_
            | refine cw_skip ?_
            | refine cw_region ?_
            | refine cw_exit rfl ?_
            | refine cw_true rfl ?_
            | refine cw_false rfl ?_)
          refine x_load_e rfl rfl cb rfl ⟨rfl, rfl⟩ ?_
          repeat (first
            | refine x_move rfl rfl rfl (okq_reg rfl rfl) ?_
            | refine x_assign rfl rfl rfl (okq_reg rfl rfl) ?_
            | refine x_add rfl rfl rfl (wrap_i64 (by omega) (by omega)) rfl (okq_reg rfl rfl) ?_
            | refine x_sub_ rfl rfl rfl (wrap_i64 (by omega) (by omega)) rfl (okq_reg rfl rfl) ?_
            | refine x_mul rfl rfl rfl (wrap_i64 (by omega) (by omega)) rfl (okq_reg rfl rfl) ?_
            | refine x_ibin rfl rfl rfl rfl rfl (okq_reg rfl rfl) ?_
            | refine x_len rfl rfl (by assumption) rfl (okq_reg rfl rfl) ?_
            | refine x_pick_t rfl rfl rfl rfl (okq_reg rfl rfl) ?_
            | refine x_pick_f rfl rfl rfl rfl (okq_reg rfl rfl) ?_
            | refine x_not rfl rfl rfl (okq_reg rfl rfl) ?_
            | refine x_extract rfl rfl rfl rfl (okq_reg rfl rfl) ?_
            | refine x_nilCheck rfl rfl rfl (okq_reg rfl rfl) ?_
            | refine x_fieldAddr rfl rfl rfl rfl (okq_reg rfl rfl) ?_
            | refine x_skip (okq_reg rfl rfl) rfl rfl rfl ?_
            | refine x_indexAddr1 rfl rfl rfl (by assumption) (by omega) (by omega) rfl (okq_reg rfl rfl) ?_
            | refine x_indexAddr rfl rfl rfl (by assumption) (by omega) (by omega) rfl (okq_reg rfl rfl) ?_
            | refine x_nil ?_
            | refine cw_seq ?_
            | refine nw_seq ?_
            | refine nw_block ?_
            | refine cw_block ?_
            | refine cw_skip ?_
            | refine cw_region ?_
            | refine cw_exit rfl ?_
            | refine cw_true rfl ?_
            | refine cw_false rfl ?_)
          refine nw_meet (ua, ub) (by repeat (first | exact True.intro | refine ⟨rfl, ?_⟩)) ⟨ka.non_trans kb, hPa.keepN kb, hPb⟩
        · refine x_call rfl rfl rfl ⟨rfl, rfl⟩ (ref_New (hB.keepN ka) (by omega) (fun p hp => by have := hkb p hp; omega)) ?_
          rintro _ Hb ⟨kb, bb, rfl, hbb, hMb⟩
          refine ⟨okm_nil rfl, ?_⟩
          obtain ⟨ub, hBb, hPb⟩ := hMb.row
          have cb : cel Hb bb 0 = some ub := by rw [hBb.cel]; rfl
          repeat (first
            | refine x_move rfl rfl rfl (okq_reg rfl rfl) ?_
            | refine x_assign rfl rfl rfl (okq_reg rfl rfl) ?_
            | refine x_add rfl rfl rfl (wrap_i64 (by omega) (by omega)) rfl (okq_reg rfl rfl) ?_
            | refine x_sub_ rfl rfl rfl (wrap_i64 (by omega) (by omega)) rfl (okq_reg rfl rfl) ?_
            | refine x_mul rfl rfl rfl (wrap_i64 (by omega) (by omega)) rfl (okq_reg rfl rfl) ?_
            | refine x_ibin rfl rfl rfl rfl rfl (okq_reg rfl rfl) ?_
            | refine x_len rfl rfl (by assumption) rfl (okq_reg rfl rfl) ?_
            | refine x_pick_t rfl rfl rfl rfl (okq_reg rfl rfl) ?_
            | refine x_pick_f rfl rfl rfl rfl (okq_reg rfl rfl) ?_
            | refine x_not rfl rfl rfl (okq_reg rfl rfl) ?_
            | refine x_extract rfl rfl rfl rfl (okq_reg rfl rfl) ?_
            | refine x_nilCheck rfl rfl rfl (okq_reg rfl rfl) ?_
            | refine x_fieldAddr rfl rfl rfl rfl (okq_reg rfl rfl) ?_
            | refine x_skip (okq_reg rfl rfl) rfl rfl rfl ?_
            | refine x_indexAddr1 rfl rfl rfl (by assumption) (by omega) (by omega) rfl (okq_reg rfl rfl) ?_
            | refine x_indexAddr rfl rfl rfl (by assumption) (by omega) (by omega) rfl (okq_reg rfl rfl) ?_
            | refine x_nil ?_
            | refine cw_seq ?_
            | refine nw_seq ?_
            | refine nw_block ?_
            | refine cw_block ?_
            | refine cw_skip ?_
            | refine cw_region ?_
            | refine cw_exit rfl ?_
            | refine cw_true rfl ?_
            | refine cw_false rfl ?_)
          refine x_alt ?_ ?_
          · refine x_load_e rfl rfl (kb.cel ca (fun h => h)) rfl ⟨rfl, rfl⟩ ?_
            repeat (first
              | refine x_move rfl rfl rfl (okq_reg rfl rfl) ?_
              | refine x_assign rfl rfl rfl (okq_reg rfl rfl) ?_
              | refine x_add rfl rfl rfl (wrap_i64 (by omega) (by omega)) rfl (okq_reg rfl rfl) ?_
              | refine x_sub_ rfl rfl rfl (wrap_i64 (by omega) (by omega)) rfl (okq_reg rfl rfl) ?_
              | refine x_mul rfl rfl rfl (wrap_i64 (by omega) (by omega)) rfl (okq_reg rfl rfl) ?_
              | refine x_ibin rfl rfl rfl rfl rfl (okq_reg rfl rfl) ?_
              | refine x_len rfl rfl (by assumption) rfl (okq_reg rfl rfl) ?_
              | refine x_pick_t rfl rfl rfl rfl (okq_reg rfl rfl) ?_
              | refine x_pick_f rfl rfl rfl rfl (okq_reg rfl rfl) ?_
              | refine x_not rfl rfl rfl (okq_reg rfl rfl) ?_
              | refine x_extract rfl rfl rfl rfl (okq_reg rfl rfl) ?_
              | refine x_nilCheck rfl rfl rfl (okq_reg rfl rfl) ?_
              | refine x_fieldAddr rfl rfl rfl rfl (okq_reg rfl rfl) ?_
              | refine x_skip (okq_reg rfl rfl) rfl rfl rfl ?_
              | refine x_indexAddr1 rfl rfl rfl (by assumption) (by omega) (by omega) rfl (okq_reg rfl rfl) ?_
              | refine x_indexAddr rfl rfl rfl (by assumption) (by omega) (by omega) rfl (okq_reg rfl rfl) ?_
              | refine x_nil ?_
              | refine cw_seq ?_
              | refine nw_seq ?_
              | refine nw_block ?_
              | refine cw_block ?_
              | refine cw_skip ?_
              | refine cw_region ?_
              | refine cw_exit rfl ?_
              | refine cw_true rfl ?_
              | refine cw_false rfl ?_)
            refine x_load_e rfl rfl cb rfl ⟨rfl, rfl⟩ ?_
            repeat (first
              | refine x_move rfl rfl rfl (okq_reg rfl rfl) ?_
              | refine x_assign rfl rfl rfl (okq_reg rfl rfl) ?_
              | refine x_add rfl rfl rfl (wrap_i64 (by omega) (by omega)) rfl (okq_reg rfl rfl) ?_
              | refine x_sub_ rfl rfl rfl (wrap_i64 (by omega) (by omega)) rfl (okq_reg rfl rfl) ?_
              | refine x_mul rfl rfl rfl (wrap_i64 (by omega) (by omega)) rfl (okq_reg rfl rfl) ?_
              | refine x_ibin rfl rfl rfl rfl rfl (okq_reg rfl rfl) ?_
              | refine x_len rfl rfl (by assumption) rfl (okq_reg rfl rfl) ?_
              | refine x_pick_t rfl rfl rfl rfl (okq_reg rfl rfl) ?_
              | refine x_pick_f rfl rfl rfl rfl (okq_reg rfl rfl) ?_
              | refine x_not rfl rfl rfl (okq_reg rfl rfl) ?_
              | refine x_extract rfl rfl rfl rfl (okq_reg rfl rfl) ?_
              | refine x_nilCheck rfl rfl rfl (okq_reg rfl rfl) ?_
              | refine x_fieldAddr rfl rfl rfl rfl (okq_reg rfl rfl) ?_
              | refine x_skip (okq_reg rfl rfl) rfl rfl rfl ?_
              | refine x_indexAddr1 rfl rfl rfl (by assumption) (by omega) (by omega) rfl (okq_reg rfl rfl) ?_
              | refine x_indexAddr rfl rfl rfl (by assumption) (by omega) (by omega) rfl (okq_reg rfl rfl) ?_
              | refine x_nil ?_
              | refine cw_seq ?_
              | refine nw_seq ?_
              | refine nw_block ?_
              | refine cw_block ?_
              | refine cw_skip ?_
              | refine cw_region ?_
              | refine cw_exit rfl ?_
              | refine cw_true rfl ?_
              | refine cw_false rfl ?_)
            refine nw_meet (ua, ub) (by repeat (first | exact True.intro | refine ⟨rfl, ?_⟩)) ⟨ka.non_trans kb, hPa.keepN kb, hPb⟩
          · refine x_load_e rfl rfl cb rfl ⟨rfl, rfl⟩ ?_
            repeat (first
              | refine x_move rfl rfl rfl (okq_reg rfl rfl) ?_
              | refine x_assign rfl rfl rfl (okq_reg rfl rfl) ?_
              | refine x_add rfl rfl rfl (wrap_i64 (by omega) (by omega)) rfl (okq_reg rfl rfl) ?_
              | refine x_sub_ rfl rfl rfl (wrap_i64 (by omega) (by omega)) rfl (okq_reg rfl rfl) ?_
              | refine x_mul rfl rfl rfl (wrap_i64 (by omega) (by omega)) rfl (okq_reg rfl rfl) ?_
              | refine x_ibin rfl rfl rfl rfl rfl (okq_reg rfl rfl) ?_
              | refine x_len rfl rfl (by assumption) rfl (okq_reg rfl rfl) ?_
              | refine x_pick_t rfl rfl rfl rfl (okq_reg rfl rfl) ?_
              | refine x_pick_f rfl rfl rfl rfl (okq_reg rfl rfl) ?_
              | refine x_not rfl rfl rfl (okq_reg rfl rfl) ?_
              | refine x_extract rfl rfl rfl rfl (okq_reg rfl rfl) ?_
              | refine x_nilCheck rfl rfl rfl (okq_reg rfl rfl) ?_
              | refine x_fieldAddr rfl rfl rfl rfl (okq_reg rfl rfl) ?_
              | refine x_skip (okq_reg rfl rfl) rfl rfl rfl ?_
              | refine x_indexAddr1 rfl rfl rfl (by assumption) (by omega) (by omega) rfl (okq_reg rfl rfl) ?_
              | refine x_indexAddr rfl rfl rfl (by assumption) (by omega) (by omega) rfl (okq_reg rfl rfl) ?_
              | refine x_nil ?_
              | refine cw_seq ?_
              | refine nw_seq ?_
              | refine nw_block ?_
              | refine cw_block ?_
              | refine cw_skip ?_
              | refine cw_region ?_
              | refine cw_exit rfl ?_
              | refine cw_true rfl ?_
              | refine cw_false rfl ?_)
            refine x_load_e rfl rfl (kb.cel ca (fun h => h)) rfl ⟨rfl, rfl⟩ ?_
            repeat (first
              | refine x_move rfl rfl rfl (okq_reg rfl rfl) ?_
              | refine x_assign rfl rfl rfl (okq_reg rfl rfl) ?_
              | refine x_add rfl rfl rfl (wrap_i64 (by omega) (by omega)) rfl (okq_reg rfl rfl) ?_
              | refine x_sub_ rfl rfl rfl (wrap_i64 (by omega) (by omega)) rfl (okq_reg rfl rfl) ?_
              | refine x_mul rfl rfl rfl (wrap_i64 (by omega) (by omega)) rfl (okq_reg rfl rfl) ?_
              | refine x_ibin rfl rfl rfl rfl rfl (okq_reg rfl rfl) ?_
              | refine x_len rfl rfl (by assumption) rfl (okq_reg rfl rfl) ?_
              | refine x_pick_t rfl rfl rfl rfl (okq_reg rfl rfl) ?_
              | refine x_pick_f rfl rfl rfl rfl (okq_reg rfl rfl) ?_
              | refine x_not rfl rfl rfl (okq_reg rfl rfl) ?_
              | refine x_extract rfl rfl rfl rfl (okq_reg rfl rfl) ?_
              | refine x_nilCheck rfl rfl rfl (okq_reg rfl rfl) ?_
              | refine x_fieldAddr rfl rfl rfl rfl (okq_reg rfl rfl) ?_
              | refine x_skip (okq_reg rfl rfl) rfl rfl rfl ?_
              | refine x_indexAddr1 rfl rfl rfl (by assumption) (by omega) (by omega) rfl (okq_reg rfl rfl) ?_
              | refine x_indexAddr rfl rfl rfl (by assumption) (by omega) (by omega) rfl (okq_reg rfl rfl) ?_
              | refine x_nil ?_
              | refine cw_seq ?_
              | refine nw_seq ?_
              | refine nw_block ?_
              | refine cw_block ?_
              | refine cw_skip ?_
              | refine cw_region ?_
              | refine cw_exit rfl ?_
              | refine cw_true rfl ?_
              | refine cw_false rfl ?_)
            refine nw_meet (ua, ub) (by repeat (first | exact True.intro | refine ⟨rfl, ?_⟩)) ⟨ka.non_trans kb, hPa.keepN kb, hPb⟩
      · rintro ⟨ua, ub⟩ H1 ⟨hk1, hPa, hPb⟩
        simp only at hPa hPb
        have hna := newM_length la
        have hnb := newM_length lb
        have ga : ∀ r ∈ newM la, r.1.length ≤ 1000000 := fun r hr => by have := newM_keys hka r hr; omega
        have gb : ∀ r ∈ newM lb, r.1.length ≤ 1000000 := fun r hr => by have := newM_keys hkb r hr; omega
        have rp := newM_rises la
        have rq := newM_rises lb
        generalize newM la = p at *
        generalize newM lb = q at *
        have lp : p.length ≤ 100000 := by omega
        have lq : q.length ≤ 100000 := by omega
        have m1 := mrg_length 1 1 p q
        have m2 := mrg_length 2 1 p q
        have m3 := mrg_length 3 1 p q
        have m4 := mrg_length 3 1 q p
        have rx := mrg_rises 3 1 rp rq
        have ry := mrg_rises 3 1 rq rp
        have ri := mrg_rises 2 1 rp rq
        have ro := mrg_rises 1 1 rx ry
        have m5 := mrg_length 1 1 (mrg 3 1 p q) (mrg 3 1 q p)
        repeat (first
          | refine x_move rfl rfl rfl trivial ?_
          | refine x_assign rfl rfl rfl trivial ?_
          | refine x_add rfl rfl rfl (wrap_i64 (by omega) (by omega)) rfl trivial ?_
          | refine x_sub_ rfl rfl rfl (wrap_i64 (by omega) (by omega)) rfl trivial ?_
          | refine x_mul rfl rfl rfl (wrap_i64 (by omega) (by omega)) rfl trivial ?_
          | refine x_ibin rfl rfl rfl rfl rfl trivial ?_
          | refine x_neg_ rfl rfl (wrap_i64 (by omega) (by omega)) rfl trivial ?_
          | refine x_len rfl rfl (by assumption) rfl trivial ?_
          | refine x_pick_t rfl rfl rfl rfl trivial ?_
          | refine x_pick_f rfl rfl rfl rfl trivial ?_
          | refine x_not rfl rfl rfl trivial ?_
          | refine x_beq rfl rfl rfl rfl trivial ?_
          | refine x_bne rfl rfl rfl rfl trivial ?_
          | refine x_extract rfl rfl rfl rfl trivial ?_
          | refine x_nilCheck rfl rfl rfl trivial ?_
          | refine x_fieldAddr rfl rfl rfl rfl trivial ?_
          | refine x_skip trivial rfl rfl rfl ?_
          | refine x_indexAddr1 rfl rfl rfl (by assumption) (by omega) (by omega) rfl trivial ?_
          | refine x_indexAddr rfl rfl rfl (by assumption) (by omega) (by omega) rfl trivial ?_
          | refine x_nil ?_
          | refine cw_seq ?_
          | refine nw_seq ?_
          | refine nw_block ?_
          | refine cw_block ?_
          | refine cw_skip ?_
          | refine cw_region ?_
          | refine cw_exit rfl ?_
          | refine cw_true rfl ?_
          | refine cw_false rfl ?_)
        refine x_call rfl rfl rfl trivial (merge_Of hPa hPb lp lq ga gb) ?_
        rintro _ H2 ⟨hk2, u2, rfl, hu2⟩
        refine ⟨trivial, ?_⟩
        rw [mof_ok (by decide) (by decide) rp rq] at hu2 ⊢
        simp only [Option.getD_some] at hu2
        have s2 := hu2.ps.sl
        repeat (first
          | refine x_move rfl rfl rfl trivial ?_
          | refine x_assign rfl rfl rfl trivial ?_
          | refine x_add rfl rfl rfl (wrap_i64 (by omega) (by omega)) rfl trivial ?_
          | refine x_sub_ rfl rfl rfl (wrap_i64 (by omega) (by omega)) rfl trivial ?_
          | refine x_mul rfl rfl rfl (wrap_i64 (by omega) (by omega)) rfl trivial ?_
          | refine x_ibin rfl rfl rfl rfl rfl trivial ?_
          | refine x_neg_ rfl rfl (wrap_i64 (by omega) (by omega)) rfl trivial ?_
          | refine x_len rfl rfl (by assumption) rfl trivial ?_
          | refine x_pick_t rfl rfl rfl rfl trivial ?_
          | refine x_pick_f rfl rfl rfl rfl trivial ?_
          | refine x_not rfl rfl rfl trivial ?_
          | refine x_beq rfl rfl rfl rfl trivial ?_
          | refine x_bne rfl rfl rfl rfl trivial ?_
          | refine x_extract rfl rfl rfl rfl trivial ?_
          | refine x_nilCheck rfl rfl rfl trivial ?_
          | refine x_fieldAddr rfl rfl rfl rfl trivial ?_
          | refine x_skip trivial rfl rfl rfl ?_
          | refine x_indexAddr1 rfl rfl rfl (by assumption) (by omega) (by omega) rfl trivial ?_
          | refine x_indexAddr rfl rfl rfl (by assumption) (by omega) (by omega) rfl trivial ?_
          | refine x_nil ?_
          | refine cw_seq ?_
          | refine nw_seq ?_
          | refine nw_block ?_
          | refine cw_block ?_
          | refine cw_skip ?_
          | refine cw_region ?_
          | refine cw_exit rfl ?_
          | refine cw_true rfl ?_
          | refine cw_false rfl ?_)
        have k2 := hk2
        refine x_call rfl rfl rfl trivial (merge_Of (hPb.keepN k2) (hPa.keepN k2) lq lp gb ga) ?_
        rintro _ H3 ⟨hk3, u3, rfl, hu3⟩
        refine ⟨trivial, ?_⟩
        rw [mof_ok (by decide) (by decide) rq rp] at hu3 ⊢
        simp only [Option.getD_some] at hu3
        have s3 := hu3.ps.sl
        repeat (first
          | refine x_move rfl rfl rfl trivial ?_
          | refine x_assign rfl rfl rfl trivial ?_
          | refine x_add rfl rfl rfl (wrap_i64 (by omega) (by omega)) rfl trivial ?_
          | refine x_sub_ rfl rfl rfl (wrap_i64 (by omega) (by omega)) rfl trivial ?_
          | refine x_mul rfl rfl rfl (wrap_i64 (by omega) (by omega)) rfl trivial ?_
          | refine x_ibin rfl rfl rfl rfl rfl trivial ?_
          | refine x_neg_ rfl rfl (wrap_i64 (by omega) (by omega)) rfl trivial ?_
          | refine x_len rfl rfl (by assumption) rfl trivial ?_
          | refine x_pick_t rfl rfl rfl rfl trivial ?_
          | refine x_pick_f rfl rfl rfl rfl trivial ?_
          | refine x_not rfl rfl rfl trivial ?_
          | refine x_beq rfl rfl rfl rfl trivial ?_
          | refine x_bne rfl rfl rfl rfl trivial ?_
          | refine x_extract rfl rfl rfl rfl trivial ?_
          | refine x_nilCheck rfl rfl rfl trivial ?_
          | refine x_fieldAddr rfl rfl rfl rfl trivial ?_
          | refine x_skip trivial rfl rfl rfl ?_
          | refine x_indexAddr1 rfl rfl rfl (by assumption) (by omega) (by omega) rfl trivial ?_
          | refine x_indexAddr rfl rfl rfl (by assumption) (by omega) (by omega) rfl trivial ?_
          | refine x_nil ?_
          | refine cw_seq ?_
          | refine nw_seq ?_
          | refine nw_block ?_
          | refine cw_block ?_
          | refine cw_skip ?_
          | refine cw_region ?_
          | refine cw_exit rfl ?_
          | refine cw_true rfl ?_
          | refine cw_false rfl ?_)
        have k3 := k2.non_trans hk3
        refine x_call rfl rfl rfl trivial (merge_Of (hPa.keepN k3) (hPb.keepN k3) lp lq ga gb) ?_
        rintro _ H4 ⟨hk4, u4, rfl, hu4⟩
        refine ⟨trivial, ?_⟩
        rw [mof_ok (by decide) (by decide) rp rq] at hu4 ⊢
        simp only [Option.getD_some] at hu4
        have s4 := hu4.ps.sl
        repeat (first
          | refine x_move rfl rfl rfl trivial ?_
          | refine x_assign rfl rfl rfl trivial ?_
          | refine x_add rfl rfl rfl (wrap_i64 (by omega) (by omega)) rfl trivial ?_
          | refine x_sub_ rfl rfl rfl (wrap_i64 (by omega) (by omega)) rfl trivial ?_
          | refine x_mul rfl rfl rfl (wrap_i64 (by omega) (by omega)) rfl trivial ?_
          | refine x_ibin rfl rfl rfl rfl rfl trivial ?_
          | refine x_neg_ rfl rfl (wrap_i64 (by omega) (by omega)) rfl trivial ?_
          | refine x_len rfl rfl (by assumption) rfl trivial ?_
          | refine x_pick_t rfl rfl rfl rfl trivial ?_
          | refine x_pick_f rfl rfl rfl rfl trivial ?_
          | refine x_not rfl rfl rfl trivial ?_
          | refine x_beq rfl rfl rfl rfl trivial ?_
          | refine x_bne rfl rfl rfl rfl trivial ?_
          | refine x_extract rfl rfl rfl rfl trivial ?_
          | refine x_nilCheck rfl rfl rfl trivial ?_
          | refine x_fieldAddr rfl rfl rfl rfl trivial ?_
          | refine x_skip trivial rfl rfl rfl ?_
          | refine x_indexAddr1 rfl rfl rfl (by assumption) (by omega) (by omega) rfl trivial ?_
          | refine x_indexAddr rfl rfl rfl (by assumption) (by omega) (by omega) rfl trivial ?_
          | refine x_nil ?_
          | refine cw_seq ?_
          | refine nw_seq ?_
          | refine nw_block ?_
          | refine cw_block ?_
          | refine cw_skip ?_
          | refine cw_region ?_
          | refine cw_exit rfl ?_
          | refine cw_true rfl ?_
          | refine cw_false rfl ?_)
        have k4 := k3.non_trans hk4
        refine x_call rfl rfl rfl trivial (merge_Of (hPa.keepN k4) (hPb.keepN k4) lp lq ga gb) ?_
        rintro _ H5 ⟨hk5, u5, rfl, hu5⟩
        refine ⟨trivial, ?_⟩
        rw [mof_ok (by decide) (by decide) rp rq] at hu5 ⊢
        simp only [Option.getD_some] at hu5
        have s5 := hu5.ps.sl
        repeat (first
          | refine x_move rfl rfl rfl trivial ?_
          | refine x_assign rfl rfl rfl trivial ?_
          | refine x_add rfl rfl rfl (wrap_i64 (by omega) (by omega)) rfl trivial ?_
          | refine x_sub_ rfl rfl rfl (wrap_i64 (by omega) (by omega)) rfl trivial ?_
          | refine x_mul rfl rfl rfl (wrap_i64 (by omega) (by omega)) rfl trivial ?_
          | refine x_ibin rfl rfl rfl rfl rfl trivial ?_
          | refine x_neg_ rfl rfl (wrap_i64 (by omega) (by omega)) rfl trivial ?_
          | refine x_len rfl rfl (by assumption) rfl trivial ?_
          | refine x_pick_t rfl rfl rfl rfl trivial ?_
          | refine x_pick_f rfl rfl rfl rfl trivial ?_
          | refine x_not rfl rfl rfl trivial ?_
          | refine x_beq rfl rfl rfl rfl trivial ?_
          | refine x_bne rfl rfl rfl rfl trivial ?_
          | refine x_extract rfl rfl rfl rfl trivial ?_
          | refine x_nilCheck rfl rfl rfl trivial ?_
          | refine x_fieldAddr rfl rfl rfl rfl trivial ?_
          | refine x_skip trivial rfl rfl rfl ?_
          | refine x_indexAddr1 rfl rfl rfl (by assumption) (by omega) (by omega) rfl trivial ?_
          | refine x_indexAddr rfl rfl rfl (by assumption) (by omega) (by omega) rfl trivial ?_
          | refine x_nil ?_
          | refine cw_seq ?_
          | refine nw_seq ?_
          | refine nw_block ?_
          | refine cw_block ?_
          | refine cw_skip ?_
          | refine cw_region ?_
          | refine cw_exit rfl ?_
          | refine cw_true rfl ?_
          | refine cw_false rfl ?_)
        have k5 := k4.non_trans hk5
        refine x_call rfl rfl rfl trivial (merge_Of (hPb.keepN k5) (hPa.keepN k5) lq lp gb ga) ?_
        rintro _ H6 ⟨hk6, u6, rfl, hu6⟩
        refine ⟨trivial, ?_⟩
        rw [mof_ok (by decide) (by decide) rq rp] at hu6 ⊢
        simp only [Option.getD_some] at hu6
        have s6 := hu6.ps.sl
        repeat (first
          | refine x_move rfl rfl rfl trivial ?_
          | refine x_assign rfl rfl rfl trivial ?_
          | refine x_add rfl rfl rfl (wrap_i64 (by omega) (by omega)) rfl trivial ?_
          | refine x_sub_ rfl rfl rfl (wrap_i64 (by omega) (by omega)) rfl trivial ?_
          | refine x_mul rfl rfl rfl (wrap_i64 (by omega) (by omega)) rfl trivial ?_
          | refine x_ibin rfl rfl rfl rfl rfl trivial ?_
          | refine x_neg_ rfl rfl (wrap_i64 (by omega) (by omega)) rfl trivial ?_
          | refine x_len rfl rfl (by assumption) rfl trivial ?_
          | refine x_pick_t rfl rfl rfl rfl trivial ?_
          | refine x_pick_f rfl rfl rfl rfl trivial ?_
          | refine x_not rfl rfl rfl trivial ?_
          | refine x_beq rfl rfl rfl rfl trivial ?_
          | refine x_bne rfl rfl rfl rfl trivial ?_
          | refine x_extract rfl rfl rfl rfl trivial ?_
          | refine x_nilCheck rfl rfl rfl trivial ?_
          | refine x_fieldAddr rfl rfl rfl rfl trivial ?_
          | refine x_skip trivial rfl rfl rfl ?_
          | refine x_indexAddr1 rfl rfl rfl (by assumption) (by omega) (by omega) rfl trivial ?_
          | refine x_indexAddr rfl rfl rfl (by assumption) (by omega) (by omega) rfl trivial ?_
          | refine x_nil ?_
          | refine cw_seq ?_
          | refine nw_seq ?_
          | refine nw_block ?_
          | refine cw_block ?_
          | refine cw_skip ?_
          | refine cw_region ?_
          | refine cw_exit rfl ?_
          | refine cw_true rfl ?_
          | refine cw_false rfl ?_)
        have k6 := k5.non_trans hk6
        refine x_call rfl rfl rfl trivial (merge_Of (hu5.keepN hk6).ps hu6.ps (by omega) (by omega) (mrg_keys ga gb) (mrg_keys gb ga)) ?_
        rintro _ H7 ⟨hk7, u7, rfl, hu7⟩
        refine ⟨trivial, ?_⟩
        rw [mof_ok (by decide) (by decide) rx ry] at hu7 ⊢
        simp only [Option.getD_some] at hu7
        have s7 := hu7.ps.sl
        repeat (first
          | refine x_move rfl rfl rfl trivial ?_
          | refine x_assign rfl rfl rfl trivial ?_
          | refine x_add rfl rfl rfl (wrap_i64 (by omega) (by omega)) rfl trivial ?_
          | refine x_sub_ rfl rfl rfl (wrap_i64 (by omega) (by omega)) rfl trivial ?_
          | refine x_mul rfl rfl rfl (wrap_i64 (by omega) (by omega)) rfl trivial ?_
          | refine x_ibin rfl rfl rfl rfl rfl trivial ?_
          | refine x_neg_ rfl rfl (wrap_i64 (by omega) (by omega)) rfl trivial ?_
          | refine x_len rfl rfl (by assumption) rfl trivial ?_
          | refine x_pick_t rfl rfl rfl rfl trivial ?_
          | refine x_pick_f rfl rfl rfl rfl trivial ?_
          | refine x_not rfl rfl rfl trivial ?_
          | refine x_beq rfl rfl rfl rfl trivial ?_
          | refine x_bne rfl rfl rfl rfl trivial ?_
          | refine x_extract rfl rfl rfl rfl trivial ?_
          | refine x_nilCheck rfl rfl rfl trivial ?_
          | refine x_fieldAddr rfl rfl rfl rfl trivial ?_
          | refine x_skip trivial rfl rfl rfl ?_
          | refine x_indexAddr1 rfl rfl rfl (by assumption) (by omega) (by omega) rfl trivial ?_
          | refine x_indexAddr rfl rfl rfl (by assumption) (by omega) (by omega) rfl trivial ?_
          | refine x_nil ?_
          | refine cw_seq ?_
          | refine nw_seq ?_
          | refine nw_block ?_
          | refine cw_block ?_
          | refine cw_skip ?_
          | refine cw_region ?_
          | refine cw_exit rfl ?_
          | refine cw_true rfl ?_
          | refine cw_false rfl ?_)
        have k7 := k6.non_trans hk7
        refine x_call rfl rfl rfl trivial (merge_Of hu7.ps (hu4.keepN ((hk5.non_trans hk6).non_trans hk7)).ps (by omega) (by omega) (mrg_keys (mrg_keys ga gb) (mrg_keys gb ga)) (mrg_keys ga gb)) ?_
        rintro _ H8 ⟨hk8, u8, rfl, hu8⟩
        refine ⟨trivial, ?_⟩
        rw [mof_ok (by decide) (by decide) ro ri] at hu8 ⊢
        simp only [Option.getD_some] at hu8
        have s8 := hu8.ps.sl
        repeat (first
          | refine x_move rfl rfl rfl trivial ?_
          | refine x_assign rfl rfl rfl trivial ?_
          | refine x_add rfl rfl rfl (wrap_i64 (by omega) (by omega)) rfl trivial ?_
          | refine x_sub_ rfl rfl rfl (wrap_i64 (by omega) (by omega)) rfl trivial ?_
          | refine x_mul rfl rfl rfl (wrap_i64 (by omega) (by omega)) rfl trivial ?_
          | refine x_ibin rfl rfl rfl rfl rfl trivial ?_
          | refine x_neg_ rfl rfl (wrap_i64 (by omega) (by omega)) rfl trivial ?_
          | refine x_len rfl rfl (by assumption) rfl trivial ?_
          | refine x_pick_t rfl rfl rfl rfl trivial ?_
          | refine x_pick_f rfl rfl rfl rfl trivial ?_
          | refine x_not rfl rfl rfl trivial ?_
          | refine x_beq rfl rfl rfl rfl trivial ?_
          | refine x_bne rfl rfl rfl rfl trivial ?_
          | refine x_extract rfl rfl rfl rfl trivial ?_
          | refine x_nilCheck rfl rfl rfl trivial ?_
          | refine x_fieldAddr rfl rfl rfl rfl trivial ?_
          | refine x_skip trivial rfl rfl rfl ?_
          | refine x_indexAddr1 rfl rfl rfl (by assumption) (by omega) (by omega) rfl trivial ?_
          | refine x_indexAddr rfl rfl rfl (by assumption) (by omega) (by omega) rfl trivial ?_
          | refine x_nil ?_
          | refine cw_seq ?_
          | refine nw_seq ?_
          | refine nw_block ?_
          | refine cw_block ?_
          | refine cw_skip ?_
          | refine cw_region ?_
          | refine cw_exit rfl ?_
          | refine cw_true rfl ?_
          | refine cw_false rfl ?_)
        have k8 := k7.non_trans hk8
        refine x_call rfl rfl rfl trivial (merge_Of (hPa.keepN k8) (hPa.keepN k8) lp lp ga ga) ?_
        rintro _ H9 ⟨hk9, u9, rfl, hu9⟩
        refine ⟨trivial, ?_⟩
        rw [mof_ok (by decide) (by decide) rp rp] at hu9 ⊢
        simp only [Option.getD_some] at hu9
        have s9 := hu9.ps.sl
        repeat (first
          | refine x_move rfl rfl rfl trivial ?_
          | refine x_assign rfl rfl rfl trivial ?_
          | refine x_add rfl rfl rfl (wrap_i64 (by omega) (by omega)) rfl trivial ?_
          | refine x_sub_ rfl rfl rfl (wrap_i64 (by omega) (by omega)) rfl trivial ?_
          | refine x_mul rfl rfl rfl (wrap_i64 (by omega) (by omega)) rfl trivial ?_
          | refine x_ibin rfl rfl rfl rfl rfl trivial ?_
          | refine x_neg_ rfl rfl (wrap_i64 (by omega) (by omega)) rfl trivial ?_
          | refine x_len rfl rfl (by assumption) rfl trivial ?_
          | refine x_pick_t rfl rfl rfl rfl trivial ?_
          | refine x_pick_f rfl rfl rfl rfl trivial ?_
          | refine x_not rfl rfl rfl trivial ?_
          | refine x_beq rfl rfl rfl rfl trivial ?_
          | refine x_bne rfl rfl rfl rfl trivial ?_
          | refine x_extract rfl rfl rfl rfl trivial ?_
          | refine x_nilCheck rfl rfl rfl trivial ?_
          | refine x_fieldAddr rfl rfl rfl rfl trivial ?_
          | refine x_skip trivial rfl rfl rfl ?_
          | refine x_indexAddr1 rfl rfl rfl (by assumption) (by omega) (by omega) rfl trivial ?_
          | refine x_indexAddr rfl rfl rfl (by assumption) (by omega) (by omega) rfl trivial ?_
          | refine x_nil ?_
          | refine cw_seq ?_
          | refine nw_seq ?_
          | refine nw_block ?_
          | refine cw_block ?_
          | refine cw_skip ?_
          | refine cw_region ?_
          | refine cw_exit rfl ?_
          | refine cw_true rfl ?_
          | refine cw_false rfl ?_)
        have k9 := k8.non_trans hk9
        refine x_call rfl rfl rfl trivial (merge_Of (hPa.keepN k9) (hPa.keepN k9) lp lp ga ga) ?_
        rintro _ H10 ⟨hk10, u10, rfl, hu10⟩
        refine ⟨trivial, ?_⟩
        rw [mof_ok (by decide) (by decide) rp rp] at hu10 ⊢
        simp only [Option.getD_some] at hu10
        have s10 := hu10.ps.sl
        repeat (first
          | refine x_move rfl rfl rfl trivial ?_
          | refine x_assign rfl rfl rfl trivial ?_
          | refine x_add rfl rfl rfl (wrap_i64 (by omega) (by omega)) rfl trivial ?_
          | refine x_sub_ rfl rfl rfl (wrap_i64 (by omega) (by omega)) rfl trivial ?_
          | refine x_mul rfl rfl rfl (wrap_i64 (by omega) (by omega)) rfl trivial ?_
          | refine x_ibin rfl rfl rfl rfl rfl trivial ?_
          | refine x_neg_ rfl rfl (wrap_i64 (by omega) (by omega)) rfl trivial ?_
          | refine x_len rfl rfl (by assumption) rfl trivial ?_
          | refine x_pick_t rfl rfl rfl rfl trivial ?_
          | refine x_pick_f rfl rfl rfl rfl trivial ?_
          | refine x_not rfl rfl rfl trivial ?_
          | refine x_beq rfl rfl rfl rfl trivial ?_
          | refine x_bne rfl rfl rfl rfl trivial ?_
          | refine x_extract rfl rfl rfl rfl trivial ?_
          | refine x_nilCheck rfl rfl rfl trivial ?_
          | refine x_fieldAddr rfl rfl rfl rfl trivial ?_
          | refine x_skip trivial rfl rfl rfl ?_
          | refine x_indexAddr1 rfl rfl rfl (by assumption) (by omega) (by omega) rfl trivial ?_
          | refine x_indexAddr rfl rfl rfl (by assumption) (by omega) (by omega) rfl trivial ?_
          | refine x_nil ?_
          | refine cw_seq ?_
          | refine nw_seq ?_
          | refine nw_block ?_
          | refine cw_block ?_
          | refine cw_skip ?_
          | refine cw_region ?_
          | refine cw_exit rfl ?_
          | refine cw_true rfl ?_
          | refine cw_false rfl ?_)
        have k10 := k9.non_trans hk10
        have c8 := hk9.non_trans hk10
        have c7 := hk8.non_trans c8
        have c6 := hk7.non_trans c7
        have c5 := hk6.non_trans c6
        have c4 := hk5.non_trans c5
        have c3 := hk4.non_trans c4
        have c2 := hk3.non_trans c3
        have hU := hu2.keepN c2
        have e1 := mrg_swap rp rq
        have e2 := mrg_all rp rq
        have e3 := mrg_same rp
        have e4 := mrg_none rp
        have e5 := mrg_count p q
        refine x_call rfl rfl rfl trivial (law_SamePairs hU.ps (hu3.keepN c3).ps) ?_
        rintro _ _ ⟨rfl, rfl⟩
        refine ⟨trivial, ?_⟩
        repeat (first
          | refine x_move rfl rfl rfl trivial ?_
          | refine x_assign rfl rfl rfl trivial ?_
          | refine x_add rfl rfl rfl (wrap_i64 (by omega) (by omega)) rfl trivial ?_
          | refine x_sub_ rfl rfl rfl (wrap_i64 (by omega) (by omega)) rfl trivial ?_
          | refine x_mul rfl rfl rfl (wrap_i64 (by omega) (by omega)) rfl trivial ?_
          | refine x_ibin rfl rfl rfl rfl rfl trivial ?_
          | refine x_neg_ rfl rfl (wrap_i64 (by omega) (by omega)) rfl trivial ?_
          | refine x_len rfl rfl (by assumption) rfl trivial ?_
          | refine x_pick_t rfl rfl rfl rfl trivial ?_
          | refine x_pick_f rfl rfl rfl rfl trivial ?_
          | refine x_not rfl rfl rfl trivial ?_
          | refine x_beq rfl rfl rfl rfl trivial ?_
          | refine x_bne rfl rfl rfl rfl trivial ?_
          | refine x_extract rfl rfl rfl rfl trivial ?_
          | refine x_nilCheck rfl rfl rfl trivial ?_
          | refine x_fieldAddr rfl rfl rfl rfl trivial ?_
          | refine x_skip trivial rfl rfl rfl ?_
          | refine x_indexAddr1 rfl rfl rfl (by assumption) (by omega) (by omega) rfl trivial ?_
          | refine x_indexAddr rfl rfl rfl (by assumption) (by omega) (by omega) rfl trivial ?_
          | refine x_nil ?_
          | refine cw_seq ?_
          | refine nw_seq ?_
          | refine nw_block ?_
          | refine cw_block ?_
          | refine cw_skip ?_
          | refine cw_region ?_
          | refine cw_exit rfl ?_
          | refine cw_true rfl ?_
          | refine cw_false rfl ?_)
        refine x_true 121 rfl (by simpa using e1) ?_
        repeat (first
          | refine x_move rfl rfl rfl trivial ?_
          | refine x_assign rfl rfl rfl trivial ?_
          | refine x_add rfl rfl rfl (wrap_i64 (by omega) (by omega)) rfl trivial ?_
          | refine x_sub_ rfl rfl rfl (wrap_i64 (by omega) (by omega)) rfl trivial ?_
          | refine x_mul rfl rfl rfl (wrap_i64 (by omega) (by omega)) rfl trivial ?_
          | refine x_ibin rfl rfl rfl rfl rfl trivial ?_
          | refine x_neg_ rfl rfl (wrap_i64 (by omega) (by omega)) rfl trivial ?_
          | refine x_len rfl rfl (by assumption) rfl trivial ?_
          | refine x_pick_t rfl rfl rfl rfl trivial ?_
          | refine x_pick_f rfl rfl rfl rfl trivial ?_
          | refine x_not rfl rfl rfl trivial ?_
          | refine x_beq rfl rfl rfl rfl trivial ?_
          | refine x_bne rfl rfl rfl rfl trivial ?_
          | refine x_extract rfl rfl rfl rfl trivial ?_
          | refine x_nilCheck rfl rfl rfl trivial ?_
          | refine x_fieldAddr rfl rfl rfl rfl trivial ?_
          | refine x_skip trivial rfl rfl rfl ?_
          | refine x_indexAddr1 rfl rfl rfl (by assumption) (by omega) (by omega) rfl trivial ?_
          | refine x_indexAddr rfl rfl rfl (by assumption) (by omega) (by omega) rfl trivial ?_
          | refine x_nil ?_
          | refine cw_seq ?_
          | refine nw_seq ?_
          | refine nw_block ?_
          | refine cw_block ?_
          | refine cw_skip ?_
          | refine cw_region ?_
          | refine cw_exit rfl ?_
          | refine cw_true rfl ?_
          | refine cw_false rfl ?_)
        refine x_call rfl rfl rfl trivial (law_SamePairs (hu8.keepN c8).ps hU.ps) ?_
        rintro _ _ ⟨rfl, rfl⟩
        refine ⟨trivial, ?_⟩
        repeat (first
          | refine x_move rfl rfl rfl trivial ?_
          | refine x_assign rfl rfl rfl trivial ?_
          | refine x_add rfl rfl rfl (wrap_i64 (by omega) (by omega)) rfl trivial ?_
          | refine x_sub_ rfl rfl rfl (wrap_i64 (by omega) (by omega)) rfl trivial ?_
          | refine x_mul rfl rfl rfl (wrap_i64 (by omega) (by omega)) rfl trivial ?_
          | refine x_ibin rfl rfl rfl rfl rfl trivial ?_
          | refine x_neg_ rfl rfl (wrap_i64 (by omega) (by omega)) rfl trivial ?_
          | refine x_len rfl rfl (by assumption) rfl trivial ?_
          | refine x_pick_t rfl rfl rfl rfl trivial ?_
          | refine x_pick_f rfl rfl rfl rfl trivial ?_
          | refine x_not rfl rfl rfl trivial ?_
          | refine x_beq rfl rfl rfl rfl trivial ?_
          | refine x_bne rfl rfl rfl rfl trivial ?_
          | refine x_extract rfl rfl rfl rfl trivial ?_
          | refine x_nilCheck rfl rfl rfl trivial ?_
          | refine x_fieldAddr rfl rfl rfl rfl trivial ?_
          | refine x_skip trivial rfl rfl rfl ?_
          | refine x_indexAddr1 rfl rfl rfl (by assumption) (by omega) (by omega) rfl trivial ?_
          | refine x_indexAddr rfl rfl rfl (by assumption) (by omega) (by omega) rfl trivial ?_
          | refine x_nil ?_
          | refine cw_seq ?_
          | refine nw_seq ?_
          | refine nw_block ?_
          | refine cw_block ?_
          | refine cw_skip ?_
          | refine cw_region ?_
          | refine cw_exit rfl ?_
          | refine cw_true rfl ?_
          | refine cw_false rfl ?_)
        refine x_true 126 rfl (by simpa using e2) ?_
        repeat (first
          | refine x_move rfl rfl rfl trivial ?_
          | refine x_assign rfl rfl rfl trivial ?_
          | refine x_add rfl rfl rfl (wrap_i64 (by omega) (by omega)) rfl trivial ?_
          | refine x_sub_ rfl rfl rfl (wrap_i64 (by omega) (by omega)) rfl trivial ?_
          | refine x_mul rfl rfl rfl (wrap_i64 (by omega) (by omega)) rfl trivial ?_
          | refine x_ibin rfl rfl rfl rfl rfl trivial ?_
          | refine x_neg_ rfl rfl (wrap_i64 (by omega) (by omega)) rfl trivial ?_
          | refine x_len rfl rfl (by assumption) rfl trivial ?_
          | refine x_pick_t rfl rfl rfl rfl trivial ?_
          | refine x_pick_f rfl rfl rfl rfl trivial ?_
          | refine x_not rfl rfl rfl trivial ?_
          | refine x_beq rfl rfl rfl rfl trivial ?_
          | refine x_bne rfl rfl rfl rfl trivial ?_
          | refine x_extract rfl rfl rfl rfl trivial ?_
          | refine x_nilCheck rfl rfl rfl trivial ?_
          | refine x_fieldAddr rfl rfl rfl rfl trivial ?_
          | refine x_skip trivial rfl rfl rfl ?_
          | refine x_indexAddr1 rfl rfl rfl (by assumption) (by omega) (by omega) rfl trivial ?_
          | refine x_indexAddr rfl rfl rfl (by assumption) (by omega) (by omega) rfl trivial ?_
          | refine x_nil ?_
          | refine cw_seq ?_
          | refine nw_seq ?_
          | refine nw_block ?_
          | refine cw_block ?_
          | refine cw_skip ?_
          | refine cw_region ?_
          | refine cw_exit rfl ?_
          | refine cw_true rfl ?_
          | refine cw_false rfl ?_)
        refine x_true 139 rfl (by simp; omega) ?_
        repeat (first
          | refine x_move rfl rfl rfl trivial ?_
          | refine x_assign rfl rfl rfl trivial ?_
          | refine x_add rfl rfl rfl (wrap_i64 (by omega) (by omega)) rfl trivial ?_
          | refine x_sub_ rfl rfl rfl (wrap_i64 (by omega) (by omega)) rfl trivial ?_
          | refine x_mul rfl rfl rfl (wrap_i64 (by omega) (by omega)) rfl trivial ?_
          | refine x_ibin rfl rfl rfl rfl rfl trivial ?_
          | refine x_neg_ rfl rfl (wrap_i64 (by omega) (by omega)) rfl trivial ?_
          | refine x_len rfl rfl (by assumption) rfl trivial ?_
          | refine x_pick_t rfl rfl rfl rfl trivial ?_
          | refine x_pick_f rfl rfl rfl rfl trivial ?_
          | refine x_not rfl rfl rfl trivial ?_
          | refine x_beq rfl rfl rfl rfl trivial ?_
          | refine x_bne rfl rfl rfl rfl trivial ?_
          | refine x_extract rfl rfl rfl rfl trivial ?_
          | refine x_nilCheck rfl rfl rfl trivial ?_
          | refine x_fieldAddr rfl rfl rfl rfl trivial ?_
          | refine x_skip trivial rfl rfl rfl ?_
          | refine x_indexAddr1 rfl rfl rfl (by assumption) (by omega) (by omega) rfl trivial ?_
          | refine x_indexAddr rfl rfl rfl (by assumption) (by omega) (by omega) rfl trivial ?_
          | refine x_nil ?_
          | refine cw_seq ?_
          | refine nw_seq ?_
          | refine nw_block ?_
          | refine cw_block ?_
          | refine cw_skip ?_
          | refine cw_region ?_
          | refine cw_exit rfl ?_
          | refine cw_true rfl ?_
          | refine cw_false rfl ?_)
        refine x_call rfl rfl rfl trivial (law_SamePairs (hu9.keepN hk10).ps (hPa.keepN k10)) ?_
        rintro _ _ ⟨rfl, rfl⟩
        refine ⟨trivial, ?_⟩
        repeat (first
          | refine x_move rfl rfl rfl trivial ?_
          | refine x_assign rfl rfl rfl trivial ?_
          | refine x_add rfl rfl rfl (wrap_i64 (by omega) (by omega)) rfl trivial ?_
          | refine x_sub_ rfl rfl rfl (wrap_i64 (by omega) (by omega)) rfl trivial ?_
          | refine x_mul rfl rfl rfl (wrap_i64 (by omega) (by omega)) rfl trivial ?_
          | refine x_ibin rfl rfl rfl rfl rfl trivial ?_
          | refine x_neg_ rfl rfl (wrap_i64 (by omega) (by omega)) rfl trivial ?_
          | refine x_len rfl rfl (by assumption) rfl trivial ?_
          | refine x_pick_t rfl rfl rfl rfl trivial ?_
          | refine x_pick_f rfl rfl rfl rfl trivial ?_
          | refine x_not rfl rfl rfl trivial ?_
          | refine x_beq rfl rfl rfl rfl trivial ?_
          | refine x_bne rfl rfl rfl rfl trivial ?_
          | refine x_extract rfl rfl rfl rfl trivial ?_
          | refine x_nilCheck rfl rfl rfl trivial ?_
          | refine x_fieldAddr rfl rfl rfl rfl trivial ?_
          | refine x_skip trivial rfl rfl rfl ?_
          | refine x_indexAddr1 rfl rfl rfl (by assumption) (by omega) (by omega) rfl trivial ?_
          | refine x_indexAddr rfl rfl rfl (by assumption) (by omega) (by omega) rfl trivial ?_
          | refine x_nil ?_
          | refine cw_seq ?_
          | refine nw_seq ?_
          | refine nw_block ?_
          | refine cw_block ?_
          | refine cw_skip ?_
          | refine cw_region ?_
          | refine cw_exit rfl ?_
          | refine cw_true rfl ?_
          | refine cw_false rfl ?_)
        refine x_true 144 rfl (by simpa using e3) ?_
        repeat (first
          | refine x_move rfl rfl rfl trivial ?_
          | refine x_assign rfl rfl rfl trivial ?_
          | refine x_add rfl rfl rfl (wrap_i64 (by omega) (by omega)) rfl trivial ?_
          | refine x_sub_ rfl rfl rfl (wrap_i64 (by omega) (by omega)) rfl trivial ?_
          | refine x_mul rfl rfl rfl (wrap_i64 (by omega) (by omega)) rfl trivial ?_
          | refine x_ibin rfl rfl rfl rfl rfl trivial ?_
          | refine x_neg_ rfl rfl (wrap_i64 (by omega) (by omega)) rfl trivial ?_
          | refine x_len rfl rfl (by assumption) rfl trivial ?_
          | refine x_pick_t rfl rfl rfl rfl trivial ?_
          | refine x_pick_f rfl rfl rfl rfl trivial ?_
          | refine x_not rfl rfl rfl trivial ?_
          | refine x_beq rfl rfl rfl rfl trivial ?_
          | refine x_bne rfl rfl rfl rfl trivial ?_
          | refine x_extract rfl rfl rfl rfl trivial ?_
          | refine x_nilCheck rfl rfl rfl trivial ?_
          | refine x_fieldAddr rfl rfl rfl rfl trivial ?_
          | refine x_skip trivial rfl rfl rfl ?_
          | refine x_indexAddr1 rfl rfl rfl (by assumption) (by omega) (by omega) rfl trivial ?_
          | refine x_indexAddr rfl rfl rfl (by assumption) (by omega) (by omega) rfl trivial ?_
          | refine x_nil ?_
          | refine cw_seq ?_
          | refine nw_seq ?_
          | refine nw_block ?_
          | refine cw_block ?_
          | refine cw_skip ?_
          | refine cw_region ?_
          | refine cw_exit rfl ?_
          | refine cw_true rfl ?_
          | refine cw_false rfl ?_)
        refine x_true 149 rfl (by simp [e4]) ?_
        repeat (first
          | refine x_move rfl rfl rfl trivial ?_
          | refine x_assign rfl rfl rfl trivial ?_
          | refine x_add rfl rfl rfl (wrap_i64 (by omega) (by omega)) rfl trivial ?_
          | refine x_sub_ rfl rfl rfl (wrap_i64 (by omega) (by omega)) rfl trivial ?_
          | refine x_mul rfl rfl rfl (wrap_i64 (by omega) (by omega)) rfl trivial ?_
          | refine x_ibin rfl rfl rfl rfl rfl trivial ?_
          | refine x_neg_ rfl rfl (wrap_i64 (by omega) (by omega)) rfl trivial ?_
          | refine x_len rfl rfl (by assumption) rfl trivial ?_
          | refine x_pick_t rfl rfl rfl rfl trivial ?_
          | refine x_pick_f rfl rfl rfl rfl trivial ?_
          | refine x_not rfl rfl rfl trivial ?_
          | refine x_beq rfl rfl rfl rfl trivial ?_
          | refine x_bne rfl rfl rfl rfl trivial ?_
          | refine x_extract rfl rfl rfl rfl trivial ?_
          | refine x_nilCheck rfl rfl rfl trivial ?_
          | refine x_fieldAddr rfl rfl rfl rfl trivial ?_
          | refine x_skip trivial rfl rfl rfl ?_
          | refine x_indexAddr1 rfl rfl rfl (by assumption) (by omega) (by omega) rfl trivial ?_
          | refine x_indexAddr rfl rfl rfl (by assumption) (by omega) (by omega) rfl trivial ?_
          | refine x_nil ?_
          | refine cw_seq ?_
          | refine nw_seq ?_
          | refine nw_block ?_
          | refine cw_block ?_
          | refine cw_skip ?_
          | refine cw_region ?_
          | refine cw_exit rfl ?_
          | refine cw_true rfl ?_
          | refine cw_false rfl ?_)
        refine x_call rfl rfl rfl trivial (awake19 _) ?_
        rintro _ Hz ⟨rfl, hkz⟩
        refine ⟨trivial, ?_⟩
        repeat (first
          | refine x_move rfl rfl rfl trivial ?_
          | refine x_assign rfl rfl rfl trivial ?_
          | refine x_add rfl rfl rfl (wrap_i64 (by omega) (by omega)) rfl trivial ?_
          | refine x_sub_ rfl rfl rfl (wrap_i64 (by omega) (by omega)) rfl trivial ?_
          | refine x_mul rfl rfl rfl (wrap_i64 (by omega) (by omega)) rfl trivial ?_
          | refine x_ibin rfl rfl rfl rfl rfl trivial ?_
          | refine x_neg_ rfl rfl (wrap_i64 (by omega) (by omega)) rfl trivial ?_
          | refine x_len rfl rfl (by assumption) rfl trivial ?_
          | refine x_pick_t rfl rfl rfl rfl trivial ?_
          | refine x_pick_f rfl rfl rfl rfl trivial ?_
          | refine x_not rfl rfl rfl trivial ?_
          | refine x_beq rfl rfl rfl rfl trivial ?_
          | refine x_bne rfl rfl rfl rfl trivial ?_
          | refine x_extract rfl rfl rfl rfl trivial ?_
          | refine x_nilCheck rfl rfl rfl trivial ?_
          | refine x_fieldAddr rfl rfl rfl rfl trivial ?_
          | refine x_skip trivial rfl rfl rfl ?_
          | refine x_indexAddr1 rfl rfl rfl (by assumption) (by omega) (by omega) rfl trivial ?_
          | refine x_indexAddr rfl rfl rfl (by assumption) (by omega) (by omega) rfl trivial ?_
          | refine x_nil ?_
          | refine cw_seq ?_
          | refine nw_seq ?_
          | refine nw_block ?_
          | refine cw_block ?_
          | refine cw_skip ?_
          | refine cw_region ?_
          | refine cw_exit rfl ?_
          | refine cw_true rfl ?_
          | refine cw_false rfl ?_)
        exact cw_ret1 rfl rfl ⟨rfl, (hk1.non_trans k10).non_trans hkz⟩

theorem walk_MergeParts {op policy : Int} {va vb vk : Value} {la lb : List Pr} {k : Bytes} {H : Heap} (hA : Ps H va la) (hB : Ps H vb lb) (hK : Bs H vk k) :
    Ret Try.prog 5 [.int .i64 op, .int .i64 policy, va, vb, vk] H (Yes H) := by
  have sK := hK.sl
  refine ret_of Try.func5 rfl rfl rfl rfl ?_
  intro w0
  repeat (first
    | refine x_move rfl rfl rfl trivial ?_
    | refine x_assign rfl rfl rfl trivial ?_
    | refine x_add rfl rfl rfl (wrap_i64 (by omega) (by omega)) rfl trivial ?_
    | refine x_sub_ rfl rfl rfl (wrap_i64 (by omega) (by omega)) rfl trivial ?_
    | refine x_mul rfl rfl rfl (wrap_i64 (by omega) (by omega)) rfl trivial ?_
    | refine x_ibin rfl rfl rfl rfl rfl trivial ?_
    | refine x_neg_ rfl rfl (wrap_i64 (by omega) (by omega)) rfl trivial ?_
    | refine x_len rfl rfl (by assumption) rfl trivial ?_
    | refine x_pick_t rfl rfl rfl rfl trivial ?_
    | refine x_pick_f rfl rfl rfl rfl trivial ?_
    | refine x_not rfl rfl rfl trivial ?_
    | refine x_beq rfl rfl rfl rfl trivial ?_
    | refine x_bne rfl rfl rfl rfl trivial ?_
    | refine x_extract rfl rfl rfl rfl trivial ?_
    | refine x_nilCheck rfl rfl rfl trivial ?_
    | refine x_fieldAddr rfl rfl rfl rfl trivial ?_
    | refine x_skip trivial rfl rfl rfl ?_
    | refine x_indexAddr1 rfl rfl rfl (by assumption) (by omega) (by omega) rfl trivial ?_
    | refine x_indexAddr rfl rfl rfl (by assumption) (by omega) (by omega) rfl trivial ?_
    | refine x_nil ?_
    | refine cw_seq ?_
    | refine nw_seq ?_
    | refine nw_block ?_
    | refine cw_block ?_
    | refine cw_skip ?_
    | refine cw_region ?_
    | refine cw_exit rfl ?_
    | refine cw_true rfl ?_
    | refine cw_false rfl ?_)
  refine x_call rfl rfl rfl trivial (law_GreatPairs 30 20 (by omega) hA) ?_
  rintro _ _ ⟨rfl, b1, rfl, h1⟩
  refine ⟨trivial, ?_⟩
  repeat (first
    | refine x_move rfl rfl rfl trivial ?_
    | refine x_assign rfl rfl rfl trivial ?_
    | refine x_add rfl rfl rfl (wrap_i64 (by omega) (by omega)) rfl trivial ?_
    | refine x_sub_ rfl rfl rfl (wrap_i64 (by omega) (by omega)) rfl trivial ?_
    | refine x_mul rfl rfl rfl (wrap_i64 (by omega) (by omega)) rfl trivial ?_
    | refine x_ibin rfl rfl rfl rfl rfl trivial ?_
    | refine x_neg_ rfl rfl (wrap_i64 (by omega) (by omega)) rfl trivial ?_
    | refine x_len rfl rfl (by assumption) rfl trivial ?_
    | refine x_pick_t rfl rfl rfl rfl trivial ?_
    | refine x_pick_f rfl rfl rfl rfl trivial ?_
    | refine x_not rfl rfl rfl trivial ?_
    | refine x_beq rfl rfl rfl rfl trivial ?_
    | refine x_bne rfl rfl rfl rfl trivial ?_
    | refine x_extract rfl rfl rfl rfl trivial ?_
    | refine x_nilCheck rfl rfl rfl trivial ?_
    | refine x_fieldAddr rfl rfl rfl rfl trivial ?_
    | refine x_skip trivial rfl rfl rfl ?_
    | refine x_indexAddr1 rfl rfl rfl (by assumption) (by omega) (by omega) rfl trivial ?_
    | refine x_indexAddr rfl rfl rfl (by assumption) (by omega) (by omega) rfl trivial ?_
    | refine x_nil ?_
    | refine cw_seq ?_
    | refine nw_seq ?_
    | refine nw_block ?_
    | refine cw_block ?_
    | refine cw_skip ?_
    | refine cw_region ?_
    | refine cw_exit rfl ?_
    | refine cw_true rfl ?_
    | refine cw_false rfl ?_)
  cases b1 with
  | true =>
    repeat (first
      | refine x_move rfl rfl rfl trivial ?_
      | refine x_assign rfl rfl rfl trivial ?_
      | refine x_add rfl rfl rfl (wrap_i64 (by omega) (by omega)) rfl trivial ?_
      | refine x_sub_ rfl rfl rfl (wrap_i64 (by omega) (by omega)) rfl trivial ?_
      | refine x_mul rfl rfl rfl (wrap_i64 (by omega) (by omega)) rfl trivial ?_
      | refine x_ibin rfl rfl rfl rfl rfl trivial ?_
      | refine x_neg_ rfl rfl (wrap_i64 (by omega) (by omega)) rfl trivial ?_
      | refine x_len rfl rfl (by assumption) rfl trivial ?_
      | refine x_pick_t rfl rfl rfl rfl trivial ?_
      | refine x_pick_f rfl rfl rfl rfl trivial ?_
      | refine x_not rfl rfl rfl trivial ?_
      | refine x_beq rfl rfl rfl rfl trivial ?_
      | refine x_bne rfl rfl rfl rfl trivial ?_
      | refine x_extract rfl rfl rfl rfl trivial ?_
      | refine x_nilCheck rfl rfl rfl trivial ?_
      | refine x_fieldAddr rfl rfl rfl rfl trivial ?_
      | refine x_skip trivial rfl rfl rfl ?_
      | refine x_indexAddr1 rfl rfl rfl (by assumption) (by omega) (by omega) rfl trivial ?_
      | refine x_indexAddr rfl rfl rfl (by assumption) (by omega) (by omega) rfl trivial ?_
      | refine x_nil ?_
      | refine cw_seq ?_
      | refine nw_seq ?_
      | refine nw_block ?_
      | refine cw_block ?_
      | refine cw_skip ?_
      | refine cw_region ?_
      | refine cw_exit rfl ?_
      | refine cw_true rfl ?_
      | refine cw_false rfl ?_)
    refine x_call rfl rfl rfl trivial (awake19 _) ?_
    rintro _ Hz ⟨rfl, hkz⟩
    refine ⟨trivial, ?_⟩
    repeat (first
      | refine x_move rfl rfl rfl trivial ?_
      | refine x_assign rfl rfl rfl trivial ?_
      | refine x_add rfl rfl rfl (wrap_i64 (by omega) (by omega)) rfl trivial ?_
      | refine x_sub_ rfl rfl rfl (wrap_i64 (by omega) (by omega)) rfl trivial ?_
      | refine x_mul rfl rfl rfl (wrap_i64 (by omega) (by omega)) rfl trivial ?_
      | refine x_ibin rfl rfl rfl rfl rfl trivial ?_
      | refine x_neg_ rfl rfl (wrap_i64 (by omega) (by omega)) rfl trivial ?_
      | refine x_len rfl rfl (by assumption) rfl trivial ?_
      | refine x_pick_t rfl rfl rfl rfl trivial ?_
      | refine x_pick_f rfl rfl rfl rfl trivial ?_
      | refine x_not rfl rfl rfl trivial ?_
      | refine x_beq rfl rfl rfl rfl trivial ?_
      | refine x_bne rfl rfl rfl rfl trivial ?_
      | refine x_extract rfl rfl rfl rfl trivial ?_
      | refine x_nilCheck rfl rfl rfl trivial ?_
      | refine x_fieldAddr rfl rfl rfl rfl trivial ?_
      | refine x_skip trivial rfl rfl rfl ?_
      | refine x_indexAddr1 rfl rfl rfl (by assumption) (by omega) (by omega) rfl trivial ?_
      | refine x_indexAddr rfl rfl rfl (by assumption) (by omega) (by omega) rfl trivial ?_
      | refine x_nil ?_
      | refine cw_seq ?_
      | refine nw_seq ?_
      | refine nw_block ?_
      | refine cw_block ?_
      | refine cw_skip ?_
      | refine cw_region ?_
      | refine cw_exit rfl ?_
      | refine cw_true rfl ?_
      | refine cw_false rfl ?_)
    exact cw_ret1 rfl rfl ⟨rfl, (Keep.refl Non H).non_trans hkz⟩
  | false =>
    obtain ⟨hla, hka⟩ := h1 rfl
    repeat (first
      | refine x_move rfl rfl rfl trivial ?_
      | refine x_assign rfl rfl rfl trivial ?_
      | refine x_add rfl rfl rfl (wrap_i64 (by omega) (by omega)) rfl trivial ?_
      | refine x_sub_ rfl rfl rfl (wrap_i64 (by omega) (by omega)) rfl trivial ?_
      | refine x_mul rfl rfl rfl (wrap_i64 (by omega) (by omega)) rfl trivial ?_
      | refine x_ibin rfl rfl rfl rfl rfl trivial ?_
      | refine x_neg_ rfl rfl (wrap_i64 (by omega) (by omega)) rfl trivial ?_
      | refine x_len rfl rfl (by assumption) rfl trivial ?_
      | refine x_pick_t rfl rfl rfl rfl trivial ?_
      | refine x_pick_f rfl rfl rfl rfl trivial ?_
      | refine x_not rfl rfl rfl trivial ?_
      | refine x_beq rfl rfl rfl rfl trivial ?_
      | refine x_bne rfl rfl rfl rfl trivial ?_
      | refine x_extract rfl rfl rfl rfl trivial ?_
      | refine x_nilCheck rfl rfl rfl trivial ?_
      | refine x_fieldAddr rfl rfl rfl rfl trivial ?_
      | refine x_skip trivial rfl rfl rfl ?_
      | refine x_indexAddr1 rfl rfl rfl (by assumption) (by omega) (by omega) rfl trivial ?_
      | refine x_indexAddr rfl rfl rfl (by assumption) (by omega) (by omega) rfl trivial ?_
      | refine x_nil ?_
      | refine cw_seq ?_
      | refine nw_seq ?_
      | refine nw_block ?_
      | refine cw_block ?_
      | refine cw_skip ?_
      | refine cw_region ?_
      | refine cw_exit rfl ?_
      | refine cw_true rfl ?_
      | refine cw_false rfl ?_)
    refine x_call rfl rfl rfl trivial (law_GreatPairs 30 20 (by omega) hB) ?_
    rintro _ _ ⟨rfl, b2, rfl, h2⟩
    refine ⟨trivial, ?_⟩
    repeat (first
      | refine x_move rfl rfl rfl trivial ?_
      | refine x_assign rfl rfl rfl trivial ?_
      | refine x_add rfl rfl rfl (wrap_i64 (by omega) (by omega)) rfl trivial ?_
      | refine x_sub_ rfl rfl rfl (wrap_i64 (by omega) (by omega)) rfl trivial ?_
      | refine x_mul rfl rfl rfl (wrap_i64 (by omega) (by omega)) rfl trivial ?_
      | refine x_ibin rfl rfl rfl rfl rfl trivial ?_
      | refine x_neg_ rfl rfl (wrap_i64 (by omega) (by omega)) rfl trivial ?_
      | refine x_len rfl rfl (by assumption) rfl trivial ?_
      | refine x_pick_t rfl rfl rfl rfl trivial ?_
      | refine x_pick_f rfl rfl rfl rfl trivial ?_
      | refine x_not rfl rfl rfl trivial ?_
      | refine x_beq rfl rfl rfl rfl trivial ?_
      | refine x_bne rfl rfl rfl rfl trivial ?_
      | refine x_extract rfl rfl rfl rfl trivial ?_
      | refine x_nilCheck rfl rfl rfl trivial ?_
      | refine x_fieldAddr rfl rfl rfl rfl trivial ?_
      | refine x_skip trivial rfl rfl rfl ?_
      | refine x_indexAddr1 rfl rfl rfl (by assumption) (by omega) (by omega) rfl trivial ?_
      | refine x_indexAddr rfl rfl rfl (by assumption) (by omega) (by omega) rfl trivial ?_
      | refine x_nil ?_
      | refine cw_seq ?_
      | refine nw_seq ?_
      | refine nw_block ?_
      | refine cw_block ?_
      | refine cw_skip ?_
      | refine cw_region ?_
      | refine cw_exit rfl ?_
      | refine cw_true rfl ?_
      | refine cw_false rfl ?_)
    cases b2 with
    | true =>
      repeat (first
        | refine x_move rfl rfl rfl trivial ?_
        | refine x_assign rfl rfl rfl trivial ?_
        | refine x_add rfl rfl rfl (wrap_i64 (by omega) (by omega)) rfl trivial ?_
        | refine x_sub_ rfl rfl rfl (wrap_i64 (by omega) (by omega)) rfl trivial ?_
        | refine x_mul rfl rfl rfl (wrap_i64 (by omega) (by omega)) rfl trivial ?_
        | refine x_ibin rfl rfl rfl rfl rfl trivial ?_
        | refine x_neg_ rfl rfl (wrap_i64 (by omega) (by omega)) rfl trivial ?_
        | refine x_len rfl rfl (by assumption) rfl trivial ?_
        | refine x_pick_t rfl rfl rfl rfl trivial ?_
        | refine x_pick_f rfl rfl rfl rfl trivial ?_
        | refine x_not rfl rfl rfl trivial ?_
        | refine x_beq rfl rfl rfl rfl trivial ?_
        | refine x_bne rfl rfl rfl rfl trivial ?_
        | refine x_extract rfl rfl rfl rfl trivial ?_
        | refine x_nilCheck rfl rfl rfl trivial ?_
        | refine x_fieldAddr rfl rfl rfl rfl trivial ?_
        | refine x_skip trivial rfl rfl rfl ?_
        | refine x_indexAddr1 rfl rfl rfl (by assumption) (by omega) (by omega) rfl trivial ?_
        | refine x_indexAddr rfl rfl rfl (by assumption) (by omega) (by omega) rfl trivial ?_
        | refine x_nil ?_
        | refine cw_seq ?_
        | refine nw_seq ?_
        | refine nw_block ?_
        | refine cw_block ?_
        | refine cw_skip ?_
        | refine cw_region ?_
        | refine cw_exit rfl ?_
        | refine cw_true rfl ?_
        | refine cw_false rfl ?_)
      refine x_call rfl rfl rfl trivial (awake19 _) ?_
      rintro _ Hz ⟨rfl, hkz⟩
      refine ⟨trivial, ?_⟩
      repeat (first
        | refine x_move rfl rfl rfl trivial ?_
        | refine x_assign rfl rfl rfl trivial ?_
        | refine x_add rfl rfl rfl (wrap_i64 (by omega) (by omega)) rfl trivial ?_
        | refine x_sub_ rfl rfl rfl (wrap_i64 (by omega) (by omega)) rfl trivial ?_
        | refine x_mul rfl rfl rfl (wrap_i64 (by omega) (by omega)) rfl trivial ?_
        | refine x_ibin rfl rfl rfl rfl rfl trivial ?_
        | refine x_neg_ rfl rfl (wrap_i64 (by omega) (by omega)) rfl trivial ?_
        | refine x_len rfl rfl (by assumption) rfl trivial ?_
        | refine x_pick_t rfl rfl rfl rfl trivial ?_
        | refine x_pick_f rfl rfl rfl rfl trivial ?_
        | refine x_not rfl rfl rfl trivial ?_
        | refine x_beq rfl rfl rfl rfl trivial ?_
        | refine x_bne rfl rfl rfl rfl trivial ?_
        | refine x_extract rfl rfl rfl rfl trivial ?_
        | refine x_nilCheck rfl rfl rfl trivial ?_
        | refine x_fieldAddr rfl rfl rfl rfl trivial ?_
        | refine x_skip trivial rfl rfl rfl ?_
        | refine x_indexAddr1 rfl rfl rfl (by assumption) (by omega) (by omega) rfl trivial ?_
        | refine x_indexAddr rfl rfl rfl (by assumption) (by omega) (by omega) rfl trivial ?_
        | refine x_nil ?_
        | refine cw_seq ?_
        | refine nw_seq ?_
        | refine nw_block ?_
        | refine cw_block ?_
        | refine cw_skip ?_
        | refine cw_region ?_
        | refine cw_exit rfl ?_
        | refine cw_true rfl ?_
        | refine cw_false rfl ?_)
      exact cw_ret1 rfl rfl ⟨rfl, (Keep.refl Non H).non_trans hkz⟩
    | false =>
      obtain ⟨hlb, hkb⟩ := h2 rfl
      repeat (first
        | refine x_move rfl rfl rfl trivial ?_
        | refine x_assign rfl rfl rfl trivial ?_
        | refine x_add rfl rfl rfl (wrap_i64 (by omega) (by omega)) rfl trivial ?_
        | refine x_sub_ rfl rfl rfl (wrap_i64 (by omega) (by omega)) rfl trivial ?_
        | refine x_mul rfl rfl rfl (wrap_i64 (by omega) (by omega)) rfl trivial ?_
        | refine x_ibin rfl rfl rfl rfl rfl trivial ?_
        | refine x_neg_ rfl rfl (wrap_i64 (by omega) (by omega)) rfl trivial ?_
        | refine x_len rfl rfl (by assumption) rfl trivial ?_
        | refine x_pick_t rfl rfl rfl rfl trivial ?_
        | refine x_pick_f rfl rfl rfl rfl trivial ?_
        | refine x_not rfl rfl rfl trivial ?_
        | refine x_beq rfl rfl rfl rfl trivial ?_
        | refine x_bne rfl rfl rfl rfl trivial ?_
        | refine x_extract rfl rfl rfl rfl trivial ?_
        | refine x_nilCheck rfl rfl rfl trivial ?_
        | refine x_fieldAddr rfl rfl rfl rfl trivial ?_
        | refine x_skip trivial rfl rfl rfl ?_
        | refine x_indexAddr1 rfl rfl rfl (by assumption) (by omega) (by omega) rfl trivial ?_
        | refine x_indexAddr rfl rfl rfl (by assumption) (by omega) (by omega) rfl trivial ?_
        | refine x_nil ?_
        | refine cw_seq ?_
        | refine nw_seq ?_
        | refine nw_block ?_
        | refine cw_block ?_
        | refine cw_skip ?_
        | refine cw_region ?_
        | refine cw_exit rfl ?_
        | refine cw_true rfl ?_
        | refine cw_false rfl ?_)
      refine cw_cond rfl (fun h3 => ?_) (fun h3 => ?_) <;> (try simp at h3)
      · repeat (first
          | refine x_move rfl rfl rfl trivial ?_
          | refine x_assign rfl rfl rfl trivial ?_
          | refine x_add rfl rfl rfl (wrap_i64 (by omega) (by omega)) rfl trivial ?_
          | refine x_sub_ rfl rfl rfl (wrap_i64 (by omega) (by omega)) rfl trivial ?_
          | refine x_mul rfl rfl rfl (wrap_i64 (by omega) (by omega)) rfl trivial ?_
          | refine x_ibin rfl rfl rfl rfl rfl trivial ?_
          | refine x_neg_ rfl rfl (wrap_i64 (by omega) (by omega)) rfl trivial ?_
          | refine x_len rfl rfl (by assumption) rfl trivial ?_
          | refine x_pick_t rfl rfl rfl rfl trivial ?_
          | refine x_pick_f rfl rfl rfl rfl trivial ?_
          | refine x_not rfl rfl rfl trivial ?_
          | refine x_beq rfl rfl rfl rfl trivial ?_
          | refine x_bne rfl rfl rfl rfl trivial ?_
          | refine x_extract rfl rfl rfl rfl trivial ?_
          | refine x_nilCheck rfl rfl rfl trivial ?_
          | refine x_fieldAddr rfl rfl rfl rfl trivial ?_
          | refine x_skip trivial rfl rfl rfl ?_
          | refine x_indexAddr1 rfl rfl rfl (by assumption) (by omega) (by omega) rfl trivial ?_
          | refine x_indexAddr rfl rfl rfl (by assumption) (by omega) (by omega) rfl trivial ?_
          | refine x_nil ?_
          | refine cw_seq ?_
          | refine nw_seq ?_
          | refine nw_block ?_
          | refine cw_block ?_
          | refine cw_skip ?_
          | refine cw_region ?_
          | refine cw_exit rfl ?_
          | refine cw_true rfl ?_
          | refine cw_false rfl ?_)
        refine x_call rfl rfl rfl trivial (awake19 _) ?_
        rintro _ Hz ⟨rfl, hkz⟩
        refine ⟨trivial, ?_⟩
        repeat (first
          | refine x_move rfl rfl rfl trivial ?_
          | refine x_assign rfl rfl rfl trivial ?_
          | refine x_add rfl rfl rfl (wrap_i64 (by omega) (by omega)) rfl trivial ?_
          | refine x_sub_ rfl rfl rfl (wrap_i64 (by omega) (by omega)) rfl trivial ?_
          | refine x_mul rfl rfl rfl (wrap_i64 (by omega) (by omega)) rfl trivial ?_
          | refine x_ibin rfl rfl rfl rfl rfl trivial ?_
          | refine x_neg_ rfl rfl (wrap_i64 (by omega) (by omega)) rfl trivial ?_
          | refine x_len rfl rfl (by assumption) rfl trivial ?_
          | refine x_pick_t rfl rfl rfl rfl trivial ?_
          | refine x_pick_f rfl rfl rfl rfl trivial ?_
          | refine x_not rfl rfl rfl trivial ?_
          | refine x_beq rfl rfl rfl rfl trivial ?_
          | refine x_bne rfl rfl rfl rfl trivial ?_
          | refine x_extract rfl rfl rfl rfl trivial ?_
          | refine x_nilCheck rfl rfl rfl trivial ?_
          | refine x_fieldAddr rfl rfl rfl rfl trivial ?_
          | refine x_skip trivial rfl rfl rfl ?_
          | refine x_indexAddr1 rfl rfl rfl (by assumption) (by omega) (by omega) rfl trivial ?_
          | refine x_indexAddr rfl rfl rfl (by assumption) (by omega) (by omega) rfl trivial ?_
          | refine x_nil ?_
          | refine cw_seq ?_
          | refine nw_seq ?_
          | refine nw_block ?_
          | refine cw_block ?_
          | refine cw_skip ?_
          | refine cw_region ?_
          | refine cw_exit rfl ?_
          | refine cw_true rfl ?_
          | refine cw_false rfl ?_)
        exact cw_ret1 rfl rfl ⟨rfl, (Keep.refl Non H).non_trans hkz⟩
      · repeat (first
          | refine x_move rfl rfl rfl trivial ?_
          | refine x_assign rfl rfl rfl trivial ?_
          | refine x_add rfl rfl rfl (wrap_i64 (by omega) (by omega)) rfl trivial ?_
          | refine x_sub_ rfl rfl rfl (wrap_i64 (by omega) (by omega)) rfl trivial ?_
          | refine x_mul rfl rfl rfl (wrap_i64 (by omega) (by omega)) rfl trivial ?_
          | refine x_ibin rfl rfl rfl rfl rfl trivial ?_
          | refine x_neg_ rfl rfl (wrap_i64 (by omega) (by omega)) rfl trivial ?_
          | refine x_len rfl rfl (by assumption) rfl trivial ?_
          | refine x_pick_t rfl rfl rfl rfl trivial ?_
          | refine x_pick_f rfl rfl rfl rfl trivial ?_
          | refine x_not rfl rfl rfl trivial ?_
          | refine x_beq rfl rfl rfl rfl trivial ?_
          | refine x_bne rfl rfl rfl rfl trivial ?_
          | refine x_extract rfl rfl rfl rfl trivial ?_
          | refine x_nilCheck rfl rfl rfl trivial ?_
          | refine x_fieldAddr rfl rfl rfl rfl trivial ?_
          | refine x_skip trivial rfl rfl rfl ?_
          | refine x_indexAddr1 rfl rfl rfl (by assumption) (by omega) (by omega) rfl trivial ?_
          | refine x_indexAddr rfl rfl rfl (by assumption) (by omega) (by omega) rfl trivial ?_
          | refine x_nil ?_
          | refine cw_seq ?_
          | refine nw_seq ?_
          | refine nw_block ?_
          | refine cw_block ?_
          | refine cw_skip ?_
          | refine cw_region ?_
          | refine cw_exit rfl ?_
          | refine cw_true rfl ?_
          | refine cw_false rfl ?_)
        have ho := low_bd op (m := 3) (by omega)
        have hp := low_bd policy (m := 3) (by omega)
        refine x_call rfl rfl rfl trivial (law_LowF op 3 (by omega) H) ?_
        rintro _ _ ⟨rfl, rfl⟩
        refine ⟨trivial, ?_⟩
        repeat (first
          | refine x_move rfl rfl rfl trivial ?_
          | refine x_assign rfl rfl rfl trivial ?_
          | refine x_add rfl rfl rfl (wrap_i64 (by omega) (by omega)) rfl trivial ?_
          | refine x_sub_ rfl rfl rfl (wrap_i64 (by omega) (by omega)) rfl trivial ?_
          | refine x_mul rfl rfl rfl (wrap_i64 (by omega) (by omega)) rfl trivial ?_
          | refine x_ibin rfl rfl rfl rfl rfl trivial ?_
          | refine x_neg_ rfl rfl (wrap_i64 (by omega) (by omega)) rfl trivial ?_
          | refine x_len rfl rfl (by assumption) rfl trivial ?_
          | refine x_pick_t rfl rfl rfl rfl trivial ?_
          | refine x_pick_f rfl rfl rfl rfl trivial ?_
          | refine x_not rfl rfl rfl trivial ?_
          | refine x_beq rfl rfl rfl rfl trivial ?_
          | refine x_bne rfl rfl rfl rfl trivial ?_
          | refine x_extract rfl rfl rfl rfl trivial ?_
          | refine x_nilCheck rfl rfl rfl trivial ?_
          | refine x_fieldAddr rfl rfl rfl rfl trivial ?_
          | refine x_skip trivial rfl rfl rfl ?_
          | refine x_indexAddr1 rfl rfl rfl (by assumption) (by omega) (by omega) rfl trivial ?_
          | refine x_indexAddr rfl rfl rfl (by assumption) (by omega) (by omega) rfl trivial ?_
          | refine x_nil ?_
          | refine cw_seq ?_
          | refine nw_seq ?_
          | refine nw_block ?_
          | refine cw_block ?_
          | refine cw_skip ?_
          | refine cw_region ?_
          | refine cw_exit rfl ?_
          | refine cw_true rfl ?_
          | refine cw_false rfl ?_)
        refine x_call rfl rfl rfl trivial (law_LowF policy 3 (by omega) H) ?_
        rintro _ _ ⟨rfl, rfl⟩
        refine ⟨trivial, ?_⟩
        repeat (first
          | refine x_move rfl rfl rfl trivial ?_
          | refine x_assign rfl rfl rfl trivial ?_
          | refine x_add rfl rfl rfl (wrap_i64 (by omega) (by omega)) rfl trivial ?_
          | refine x_sub_ rfl rfl rfl (wrap_i64 (by omega) (by omega)) rfl trivial ?_
          | refine x_mul rfl rfl rfl (wrap_i64 (by omega) (by omega)) rfl trivial ?_
          | refine x_ibin rfl rfl rfl rfl rfl trivial ?_
          | refine x_neg_ rfl rfl (wrap_i64 (by omega) (by omega)) rfl trivial ?_
          | refine x_len rfl rfl (by assumption) rfl trivial ?_
          | refine x_pick_t rfl rfl rfl rfl trivial ?_
          | refine x_pick_f rfl rfl rfl rfl trivial ?_
          | refine x_not rfl rfl rfl trivial ?_
          | refine x_beq rfl rfl rfl rfl trivial ?_
          | refine x_bne rfl rfl rfl rfl trivial ?_
          | refine x_extract rfl rfl rfl rfl trivial ?_
          | refine x_nilCheck rfl rfl rfl trivial ?_
          | refine x_fieldAddr rfl rfl rfl rfl trivial ?_
          | refine x_skip trivial rfl rfl rfl ?_
          | refine x_indexAddr1 rfl rfl rfl (by assumption) (by omega) (by omega) rfl trivial ?_
          | refine x_indexAddr rfl rfl rfl (by assumption) (by omega) (by omega) rfl trivial ?_
          | refine x_nil ?_
          | refine cw_seq ?_
          | refine nw_seq ?_
          | refine nw_block ?_
          | refine cw_block ?_
          | refine cw_skip ?_
          | refine cw_region ?_
          | refine cw_exit rfl ?_
          | refine cw_true rfl ?_
          | refine cw_false rfl ?_)
        refine x_call rfl rfl rfl trivial (ref_New hA (by omega) (fun p hp => by have := hka p hp; omega)) ?_
        rintro _ H1 ⟨hk1, b1, rfl, hb1, hM1⟩
        refine ⟨trivial, ?_⟩
        repeat (first
          | refine x_move rfl rfl rfl trivial ?_
          | refine x_assign rfl rfl rfl trivial ?_
          | refine x_add rfl rfl rfl (wrap_i64 (by omega) (by omega)) rfl trivial ?_
          | refine x_sub_ rfl rfl rfl (wrap_i64 (by omega) (by omega)) rfl trivial ?_
          | refine x_mul rfl rfl rfl (wrap_i64 (by omega) (by omega)) rfl trivial ?_
          | refine x_ibin rfl rfl rfl rfl rfl trivial ?_
          | refine x_neg_ rfl rfl (wrap_i64 (by omega) (by omega)) rfl trivial ?_
          | refine x_len rfl rfl (by assumption) rfl trivial ?_
          | refine x_pick_t rfl rfl rfl rfl trivial ?_
          | refine x_pick_f rfl rfl rfl rfl trivial ?_
          | refine x_not rfl rfl rfl trivial ?_
          | refine x_beq rfl rfl rfl rfl trivial ?_
          | refine x_bne rfl rfl rfl rfl trivial ?_
          | refine x_extract rfl rfl rfl rfl trivial ?_
          | refine x_nilCheck rfl rfl rfl trivial ?_
          | refine x_fieldAddr rfl rfl rfl rfl trivial ?_
          | refine x_skip trivial rfl rfl rfl ?_
          | refine x_indexAddr1 rfl rfl rfl (by assumption) (by omega) (by omega) rfl trivial ?_
          | refine x_indexAddr rfl rfl rfl (by assumption) (by omega) (by omega) rfl trivial ?_
          | refine x_nil ?_
          | refine cw_seq ?_
          | refine nw_seq ?_
          | refine nw_block ?_
          | refine cw_block ?_
          | refine cw_skip ?_
          | refine cw_region ?_
          | refine cw_exit rfl ?_
          | refine cw_true rfl ?_
          | refine cw_false rfl ?_)
        refine x_call rfl rfl rfl trivial (ref_New (hB.keepN hk1) (by omega) (fun p hp => by have := hkb p hp; omega)) ?_
        rintro _ H2 ⟨hk2, b2, rfl, hb2, hM2⟩
        refine ⟨trivial, ?_⟩
        obtain ⟨ua, hBa, hPa0⟩ := hM1.row
        obtain ⟨ub, hBb, hPb⟩ := hM2.row
        have hBa := hBa.keep hk2 (fun h => h)
        have hPa := hPa0.keepN hk2
        have hMa : Mp H2 b1 (newM la) := ⟨ua, hBa, hPa⟩
        have hna := newM_length la
        have hnb := newM_length lb
        have ga : ∀ r ∈ newM la, r.1.length ≤ 1000000 := fun r hr => by have := newM_keys hka r hr; omega
        have gb : ∀ r ∈ newM lb, r.1.length ≤ 1000000 := fun r hr => by have := newM_keys hkb r hr; omega
        have rp := newM_rises la
        have rq := newM_rises lb
        generalize newM la = p at *
        generalize newM lb = q at *
        have hk := hk1.non_trans hk2
        have hK2 := hK.keepN hk
        repeat (first
          | refine x_move rfl rfl rfl trivial ?_
          | refine x_assign rfl rfl rfl trivial ?_
          | refine x_add rfl rfl rfl (wrap_i64 (by omega) (by omega)) rfl trivial ?_
          | refine x_sub_ rfl rfl rfl (wrap_i64 (by omega) (by omega)) rfl trivial ?_
          | refine x_mul rfl rfl rfl (wrap_i64 (by omega) (by omega)) rfl trivial ?_
          | refine x_ibin rfl rfl rfl rfl rfl trivial ?_
          | refine x_neg_ rfl rfl (wrap_i64 (by omega) (by omega)) rfl trivial ?_
          | refine x_len rfl rfl (by assumption) rfl trivial ?_
          | refine x_pick_t rfl rfl rfl rfl trivial ?_
          | refine x_pick_f rfl rfl rfl rfl trivial ?_
          | refine x_not rfl rfl rfl trivial ?_
          | refine x_beq rfl rfl rfl rfl trivial ?_
          | refine x_bne rfl rfl rfl rfl trivial ?_
          | refine x_extract rfl rfl rfl rfl trivial ?_
          | refine x_nilCheck rfl rfl rfl trivial ?_
          | refine x_fieldAddr rfl rfl rfl rfl trivial ?_
          | refine x_skip trivial rfl rfl rfl ?_
          | refine x_indexAddr1 rfl rfl rfl (by assumption) (by omega) (by omega) rfl trivial ?_
          | refine x_indexAddr rfl rfl rfl (by assumption) (by omega) (by omega) rfl trivial ?_
          | refine x_nil ?_
          | refine cw_seq ?_
          | refine nw_seq ?_
          | refine nw_block ?_
          | refine cw_block ?_
          | refine cw_skip ?_
          | refine cw_region ?_
          | refine cw_exit rfl ?_
          | refine cw_true rfl ?_
          | refine cw_false rfl ?_)
        refine x_call rfl rfl rfl trivial (ref_Rank hMa hK2) ?_
        rintro _ _ ⟨rfl, rfl⟩
        refine ⟨trivial, ?_⟩
        repeat (first
          | refine x_move rfl rfl rfl trivial ?_
          | refine x_assign rfl rfl rfl trivial ?_
          | refine x_add rfl rfl rfl (wrap_i64 (by omega) (by omega)) rfl trivial ?_
          | refine x_sub_ rfl rfl rfl (wrap_i64 (by omega) (by omega)) rfl trivial ?_
          | refine x_mul rfl rfl rfl (wrap_i64 (by omega) (by omega)) rfl trivial ?_
          | refine x_ibin rfl rfl rfl rfl rfl trivial ?_
          | refine x_neg_ rfl rfl (wrap_i64 (by omega) (by omega)) rfl trivial ?_
          | refine x_len rfl rfl (by assumption) rfl trivial ?_
          | refine x_pick_t rfl rfl rfl rfl trivial ?_
          | refine x_pick_f rfl rfl rfl rfl trivial ?_
          | refine x_not rfl rfl rfl trivial ?_
          | refine x_beq rfl rfl rfl rfl trivial ?_
          | refine x_bne rfl rfl rfl rfl trivial ?_
          | refine x_extract rfl rfl rfl rfl trivial ?_
          | refine x_nilCheck rfl rfl rfl trivial ?_
          | refine x_fieldAddr rfl rfl rfl rfl trivial ?_
          | refine x_skip trivial rfl rfl rfl ?_
          | refine x_indexAddr1 rfl rfl rfl (by assumption) (by omega) (by omega) rfl trivial ?_
          | refine x_indexAddr rfl rfl rfl (by assumption) (by omega) (by omega) rfl trivial ?_
          | refine x_nil ?_
          | refine cw_seq ?_
          | refine nw_seq ?_
          | refine nw_block ?_
          | refine cw_block ?_
          | refine cw_skip ?_
          | refine cw_region ?_
          | refine cw_exit rfl ?_
          | refine cw_true rfl ?_
          | refine cw_false rfl ?_)
        refine x_call rfl rfl rfl trivial (ref_Rank hM2 hK2) ?_
        rintro _ _ ⟨rfl, rfl⟩
        refine ⟨trivial, ?_⟩
        repeat (first
          | refine x_move rfl rfl rfl trivial ?_
          | refine x_assign rfl rfl rfl trivial ?_
          | refine x_add rfl rfl rfl (wrap_i64 (by omega) (by omega)) rfl trivial ?_
          | refine x_sub_ rfl rfl rfl (wrap_i64 (by omega) (by omega)) rfl trivial ?_
          | refine x_mul rfl rfl rfl (wrap_i64 (by omega) (by omega)) rfl trivial ?_
          | refine x_ibin rfl rfl rfl rfl rfl trivial ?_
          | refine x_neg_ rfl rfl (wrap_i64 (by omega) (by omega)) rfl trivial ?_
          | refine x_len rfl rfl (by assumption) rfl trivial ?_
          | refine x_pick_t rfl rfl rfl rfl trivial ?_
          | refine x_pick_f rfl rfl rfl rfl trivial ?_
          | refine x_not rfl rfl rfl trivial ?_
          | refine x_beq rfl rfl rfl rfl trivial ?_
          | refine x_bne rfl rfl rfl rfl trivial ?_
          | refine x_extract rfl rfl rfl rfl trivial ?_
          | refine x_nilCheck rfl rfl rfl trivial ?_
          | refine x_fieldAddr rfl rfl rfl rfl trivial ?_
          | refine x_skip trivial rfl rfl rfl ?_
          | refine x_indexAddr1 rfl rfl rfl (by assumption) (by omega) (by omega) rfl trivial ?_
          | refine x_indexAddr rfl rfl rfl (by assumption) (by omega) (by omega) rfl trivial ?_
          | refine x_nil ?_
          | refine cw_seq ?_
          | refine nw_seq ?_
          | refine nw_block ?_
          | refine cw_block ?_
          | refine cw_skip ?_
          | refine cw_region ?_
          | refine cw_exit rfl ?_
          | refine cw_true rfl ?_
          | refine cw_false rfl ?_)
        have ca : cel H2 b1 0 = some ua := by rw [hBa.cel]; rfl
        have cb : cel H2 b2 0 = some ub := by rw [hBb.cel]; rfl
        have lp : p.length ≤ 30 := by omega
        have lq : q.length ≤ 30 := by omega
        have hr2 := Keep.refl Non H2
        have jp := rank_le p k
        have jq := rank_le q k
        have kk : ∀ (l : List Pr) (n m : Nat), (∀ r ∈ l, r.1.length ≤ m) → (∀ r ∈ l.take n, r.1.length ≤ m) ∧ (∀ r ∈ l.drop n, r.1.length ≤ m) := fun l n m h => ⟨fun r hr => h r (List.mem_of_mem_take hr), fun r hr => h r (List.mem_of_mem_drop hr)⟩
        have tp : (p.take (rank p k)).length ≤ 100000 := by rw [List.length_take]; omega
        have tq : (q.take (rank q k)).length ≤ 100000 := by rw [List.length_take]; omega
        have dp : (p.drop (rank p k)).length ≤ 100000 := by rw [List.length_drop]; omega
        have dq : (q.drop (rank q k)).length ≤ 100000 := by rw [List.length_drop]; omega
        refine cw_held (fun _ => Keep Non H2) ⟨[10], [(5, 0), (9, 0)]⟩ (.op 0 (.op 1 (.op 2 (.op 3 (.op 4 (.op 5 (.op 6 (.op 7 (.op 8 (.op 9 (.op 10 (.op 11 (.op 12 (.op 13 (.op 14 (.op 15 (.nil))))))))))))))))) panicOk_body mixed (by kernel_rfl) ?_
        repeat (first
          | refine x_move rfl rfl rfl (okq_reg rfl rfl) ?_
          | refine x_assign rfl rfl rfl (okq_reg rfl rfl) ?_
          | refine x_add rfl rfl rfl (wrap_i64 (by omega) (by omega)) rfl (okq_reg rfl rfl) ?_
          | refine x_sub_ rfl rfl rfl (wrap_i64 (by omega) (by omega)) rfl (okq_reg rfl rfl) ?_
          | refine x_mul rfl rfl rfl (wrap_i64 (by omega) (by omega)) rfl (okq_reg rfl rfl) ?_
          | refine x_ibin rfl rfl rfl rfl rfl (okq_reg rfl rfl) ?_
          | refine x_len rfl rfl (by assumption) rfl (okq_reg rfl rfl) ?_
          | refine x_pick_t rfl rfl rfl rfl (okq_reg rfl rfl) ?_
          | refine x_pick_f rfl rfl rfl rfl (okq_reg rfl rfl) ?_
          | refine x_not rfl rfl rfl (okq_reg rfl rfl) ?_
          | refine x_extract rfl rfl rfl rfl (okq_reg rfl rfl) ?_
          | refine x_nilCheck rfl rfl rfl (okq_reg rfl rfl) ?_
          | refine x_fieldAddr rfl rfl rfl rfl (okq_reg rfl rfl) ?_
          | refine x_skip (okq_reg rfl rfl) rfl rfl rfl ?_
          | refine x_indexAddr1 rfl rfl rfl (by assumption) (by omega) (by omega) rfl (okq_reg rfl rfl) ?_
          | refine x_indexAddr rfl rfl rfl (by assumption) (by omega) (by omega) rfl (okq_reg rfl rfl) ?_
          | refine x_nil ?_
          | refine cw_seq ?_
          | refine nw_seq ?_
          | refine nw_block ?_
          | refine cw_block ?_
          | refine cw_skip ?_
          | refine cw_region ?_
          | refine cw_exit rfl ?_
          | refine cw_true rfl ?_
          | refine cw_false rfl ?_)
        refine x_load rfl rfl (hpmk rfl (fun _ hk => hk.cel ca (fun h => h))) rfl (okq_load rfl rfl (by assumption)) ?_
        repeat (first
          | refine x_move rfl rfl rfl (okq_reg rfl rfl) ?_
          | refine x_assign rfl rfl rfl (okq_reg rfl rfl) ?_
          | refine x_add rfl rfl rfl (wrap_i64 (by omega) (by omega)) rfl (okq_reg rfl rfl) ?_
          | refine x_sub_ rfl rfl rfl (wrap_i64 (by omega) (by omega)) rfl (okq_reg rfl rfl) ?_
          | refine x_mul rfl rfl rfl (wrap_i64 (by omega) (by omega)) rfl (okq_reg rfl rfl) ?_
          | refine x_ibin rfl rfl rfl rfl rfl (okq_reg rfl rfl) ?_
          | refine x_len rfl rfl (by assumption) rfl (okq_reg rfl rfl) ?_
          | refine x_pick_t rfl rfl rfl rfl (okq_reg rfl rfl) ?_
          | refine x_pick_f rfl rfl rfl rfl (okq_reg rfl rfl) ?_
          | refine x_not rfl rfl rfl (okq_reg rfl rfl) ?_
          | refine x_extract rfl rfl rfl rfl (okq_reg rfl rfl) ?_
          | refine x_nilCheck rfl rfl rfl (okq_reg rfl rfl) ?_
          | refine x_fieldAddr rfl rfl rfl rfl (okq_reg rfl rfl) ?_
          | refine x_skip (okq_reg rfl rfl) rfl rfl rfl ?_
          | refine x_indexAddr1 rfl rfl rfl (by assumption) (by omega) (by omega) rfl (okq_reg rfl rfl) ?_
          | refine x_indexAddr rfl rfl rfl (by assumption) (by omega) (by omega) rfl (okq_reg rfl rfl) ?_
          | refine x_nil ?_
          | refine cw_seq ?_
          | refine nw_seq ?_
          | refine nw_block ?_
          | refine cw_block ?_
          | refine cw_skip ?_
          | refine cw_region ?_
          | refine cw_exit rfl ?_
          | refine cw_true rfl ?_
          | refine cw_false rfl ?_)
        refine x_load rfl rfl (hpmk rfl (fun _ hk => hk.cel cb (fun h => h))) rfl (okq_load rfl rfl (by assumption)) ?_
        repeat (first
          | refine x_move rfl rfl rfl (okq_reg rfl rfl) ?_
          | refine x_assign rfl rfl rfl (okq_reg rfl rfl) ?_
          | refine x_add rfl rfl rfl (wrap_i64 (by omega) (by omega)) rfl (okq_reg rfl rfl) ?_
          | refine x_sub_ rfl rfl rfl (wrap_i64 (by omega) (by omega)) rfl (okq_reg rfl rfl) ?_
          | refine x_mul rfl rfl rfl (wrap_i64 (by omega) (by omega)) rfl (okq_reg rfl rfl) ?_
          | refine x_ibin rfl rfl rfl rfl rfl (okq_reg rfl rfl) ?_
          | refine x_len rfl rfl (by assumption) rfl (okq_reg rfl rfl) ?_
          | refine x_pick_t rfl rfl rfl rfl (okq_reg rfl rfl) ?_
          | refine x_pick_f rfl rfl rfl rfl (okq_reg rfl rfl) ?_
          | refine x_not rfl rfl rfl (okq_reg rfl rfl) ?_
          | refine x_extract rfl rfl rfl rfl (okq_reg rfl rfl) ?_
          | refine x_nilCheck rfl rfl rfl (okq_reg rfl rfl) ?_
          | refine x_fieldAddr rfl rfl rfl rfl (okq_reg rfl rfl) ?_
          | refine x_skip (okq_reg rfl rfl) rfl rfl rfl ?_
          | refine x_indexAddr1 rfl rfl rfl (by assumption) (by omega) (by omega) rfl (okq_reg rfl rfl) ?_
          | refine x_indexAddr rfl rfl rfl (by assumption) (by omega) (by omega) rfl (okq_reg rfl rfl) ?_
          | refine x_nil ?_
          | refine cw_seq ?_
          | refine nw_seq ?_
          | refine nw_block ?_
          | refine cw_block ?_
          | refine cw_skip ?_
          | refine cw_region ?_
          | refine cw_exit rfl ?_
          | refine cw_true rfl ?_
          | refine cw_false rfl ?_)
        refine x_call rfl rfl rfl ⟨rfl, rfl⟩ (merge_Of hPa hPb (by omega) (by omega) ga gb) ?_
        rintro _ H3 ⟨hk3, u3, rfl, hu3⟩
        refine ⟨okm_keep hk3 (fun _ _ h => h), ?_⟩
        rw [mof_ok (by omega) (by omega) rp rq] at hu3 ⊢
        simp only [Option.getD_some] at hu3
        have s3 := hu3.ps.sl
        repeat (first
          | refine x_move rfl rfl rfl (okq_reg rfl rfl) ?_
          | refine x_assign rfl rfl rfl (okq_reg rfl rfl) ?_
          | refine x_add rfl rfl rfl (wrap_i64 (by omega) (by omega)) rfl (okq_reg rfl rfl) ?_
          | refine x_sub_ rfl rfl rfl (wrap_i64 (by omega) (by omega)) rfl (okq_reg rfl rfl) ?_
          | refine x_mul rfl rfl rfl (wrap_i64 (by omega) (by omega)) rfl (okq_reg rfl rfl) ?_
          | refine x_ibin rfl rfl rfl rfl rfl (okq_reg rfl rfl) ?_
          | refine x_len rfl rfl (by assumption) rfl (okq_reg rfl rfl) ?_
          | refine x_pick_t rfl rfl rfl rfl (okq_reg rfl rfl) ?_
          | refine x_pick_f rfl rfl rfl rfl (okq_reg rfl rfl) ?_
          | refine x_not rfl rfl rfl (okq_reg rfl rfl) ?_
          | refine x_extract rfl rfl rfl rfl (okq_reg rfl rfl) ?_
          | refine x_nilCheck rfl rfl rfl (okq_reg rfl rfl) ?_
          | refine x_fieldAddr rfl rfl rfl rfl (okq_reg rfl rfl) ?_
          | refine x_skip (okq_reg rfl rfl) rfl rfl rfl ?_
          | refine x_indexAddr1 rfl rfl rfl (by assumption) (by omega) (by omega) rfl (okq_reg rfl rfl) ?_
          | refine x_indexAddr rfl rfl rfl (by assumption) (by omega) (by omega) rfl (okq_reg rfl rfl) ?_
          | refine x_nil ?_
          | refine cw_seq ?_
          | refine nw_seq ?_
          | refine nw_block ?_
          | refine cw_block ?_
          | refine cw_skip ?_
          | refine cw_region ?_
          | refine cw_exit rfl ?_
          | refine cw_true rfl ?_
          | refine cw_false rfl ?_)
        repeat (first
          | refine x_move rfl rfl rfl trivial ?_
          | refine x_assign rfl rfl rfl trivial ?_
          | refine x_add rfl rfl rfl (wrap_i64 (by omega) (by omega)) rfl trivial ?_
          | refine x_sub_ rfl rfl rfl (wrap_i64 (by omega) (by omega)) rfl trivial ?_
          | refine x_mul rfl rfl rfl (wrap_i64 (by omega) (by omega)) rfl trivial ?_
          | refine x_ibin rfl rfl rfl rfl rfl trivial ?_
          | refine x_neg_ rfl rfl (wrap_i64 (by omega) (by omega)) rfl trivial ?_
          | refine x_len rfl rfl (by assumption) rfl trivial ?_
          | refine x_pick_t rfl rfl rfl rfl trivial ?_
          | refine x_pick_f rfl rfl rfl rfl trivial ?_
          | refine x_not rfl rfl rfl trivial ?_
          | refine x_beq rfl rfl rfl rfl trivial ?_
          | refine x_bne rfl rfl rfl rfl trivial ?_
          | refine x_extract rfl rfl rfl rfl trivial ?_
          | refine x_nilCheck rfl rfl rfl trivial ?_
          | refine x_fieldAddr rfl rfl rfl rfl trivial ?_
          | refine x_skip trivial rfl rfl rfl ?_
          | refine x_indexAddr1 rfl rfl rfl (by assumption) (by omega) (by omega) rfl trivial ?_
          | refine x_indexAddr rfl rfl rfl (by assumption) (by omega) (by omega) rfl trivial ?_
          | refine x_nil ?_
          | refine cw_seq ?_
          | refine nw_seq ?_
          | refine nw_block ?_
          | refine cw_block ?_
          | refine cw_skip ?_
          | refine cw_region ?_
          | refine cw_exit rfl ?_
          | refine cw_true rfl ?_
          | refine cw_false rfl ?_)
        have hr3 := Keep.refl Non H3
        have sa := hPa.sl
        have sb := hPb.sl
        have sca := sa.cap
        have scb := sb.cap
        have hPa3 := hPa.keepN hk3
        have hPb3 := hPb.keepN hk3
        have ca3 := hk3.cel ca (fun h => h)
        have cb3 := hk3.cel cb (fun h => h)
        refine cw_held (fun _ => Keep Non H3) ⟨[14], [(5, 0), (11, 0)]⟩ (.op 0 (.op 1 (.op 2 (.op 3 (.op 4 (.op 5 (.op 6 (.op 7 (.op 8 (.op 9 (.op 10 (.op 11 (.op 12 (.op 13 (.op 14 (.op 15 (.op 16 (.op 17 (.op 18 (.op 19 (.nil))))))))))))))))))))) panicOk_body mixed (by kernel_rfl) ?_
        repeat (first
          | refine x_move rfl rfl rfl (okq_reg rfl rfl) ?_
          | refine x_assign rfl rfl rfl (okq_reg rfl rfl) ?_
          | refine x_add rfl rfl rfl (wrap_i64 (by omega) (by omega)) rfl (okq_reg rfl rfl) ?_
          | refine x_sub_ rfl rfl rfl (wrap_i64 (by omega) (by omega)) rfl (okq_reg rfl rfl) ?_
          | refine x_mul rfl rfl rfl (wrap_i64 (by omega) (by omega)) rfl (okq_reg rfl rfl) ?_
          | refine x_ibin rfl rfl rfl rfl rfl (okq_reg rfl rfl) ?_
          | refine x_len rfl rfl (by assumption) rfl (okq_reg rfl rfl) ?_
          | refine x_pick_t rfl rfl rfl rfl (okq_reg rfl rfl) ?_
          | refine x_pick_f rfl rfl rfl rfl (okq_reg rfl rfl) ?_
          | refine x_not rfl rfl rfl (okq_reg rfl rfl) ?_
          | refine x_extract rfl rfl rfl rfl (okq_reg rfl rfl) ?_
          | refine x_nilCheck rfl rfl rfl (okq_reg rfl rfl) ?_
          | refine x_fieldAddr rfl rfl rfl rfl (okq_reg rfl rfl) ?_
          | refine x_skip (okq_reg rfl rfl) rfl rfl rfl ?_
          | refine x_indexAddr1 rfl rfl rfl (by assumption) (by omega) (by omega) rfl (okq_reg rfl rfl) ?_
          | refine x_indexAddr rfl rfl rfl (by assumption) (by omega) (by omega) rfl (okq_reg rfl rfl) ?_
          | refine x_nil ?_
          | refine cw_seq ?_
          | refine nw_seq ?_
          | refine nw_block ?_
          | refine cw_block ?_
          | refine cw_skip ?_
          | refine cw_region ?_
          | refine cw_exit rfl ?_
          | refine cw_true rfl ?_
          | refine cw_false rfl ?_)
        refine x_load rfl rfl (hpmk rfl (fun _ hk => hk.cel ca3 (fun h => h))) rfl (okq_load rfl rfl (by assumption)) ?_
        repeat (first
          | refine x_move rfl rfl rfl (okq_reg rfl rfl) ?_
          | refine x_assign rfl rfl rfl (okq_reg rfl rfl) ?_
          | refine x_add rfl rfl rfl (wrap_i64 (by omega) (by omega)) rfl (okq_reg rfl rfl) ?_
          | refine x_sub_ rfl rfl rfl (wrap_i64 (by omega) (by omega)) rfl (okq_reg rfl rfl) ?_
          | refine x_mul rfl rfl rfl (wrap_i64 (by omega) (by omega)) rfl (okq_reg rfl rfl) ?_
          | refine x_ibin rfl rfl rfl rfl rfl (okq_reg rfl rfl) ?_
          | refine x_len rfl rfl (by assumption) rfl (okq_reg rfl rfl) ?_
          | refine x_pick_t rfl rfl rfl rfl (okq_reg rfl rfl) ?_
          | refine x_pick_f rfl rfl rfl rfl (okq_reg rfl rfl) ?_
          | refine x_not rfl rfl rfl (okq_reg rfl rfl) ?_
          | refine x_extract rfl rfl rfl rfl (okq_reg rfl rfl) ?_
          | refine x_nilCheck rfl rfl rfl (okq_reg rfl rfl) ?_
          | refine x_fieldAddr rfl rfl rfl rfl (okq_reg rfl rfl) ?_
          | refine x_skip (okq_reg rfl rfl) rfl rfl rfl ?_
          | refine x_indexAddr1 rfl rfl rfl (by assumption) (by omega) (by omega) rfl (okq_reg rfl rfl) ?_
          | refine x_indexAddr rfl rfl rfl (by assumption) (by omega) (by omega) rfl (okq_reg rfl rfl) ?_
          | refine x_nil ?_
          | refine cw_seq ?_
          | refine nw_seq ?_
          | refine nw_block ?_
          | refine cw_block ?_
          | refine cw_skip ?_
          | refine cw_region ?_
          | refine cw_exit rfl ?_
          | refine cw_true rfl ?_
          | refine cw_false rfl ?_)
        refine x_slice_h rfl rfl rfl sa (by omega) (by omega) rfl (okq_reg rfl rfl) ?_
        intro u31 hu31 hc31
        have P31 := (hPa3).cut (a := 0) (b := rank p k) hu31 hc31 (by omega) (by omega)
        rw [List.drop_zero] at P31
        repeat (first
          | refine x_move rfl rfl rfl (okq_reg rfl rfl) ?_
          | refine x_assign rfl rfl rfl (okq_reg rfl rfl) ?_
          | refine x_add rfl rfl rfl (wrap_i64 (by omega) (by omega)) rfl (okq_reg rfl rfl) ?_
          | refine x_sub_ rfl rfl rfl (wrap_i64 (by omega) (by omega)) rfl (okq_reg rfl rfl) ?_
          | refine x_mul rfl rfl rfl (wrap_i64 (by omega) (by omega)) rfl (okq_reg rfl rfl) ?_
          | refine x_ibin rfl rfl rfl rfl rfl (okq_reg rfl rfl) ?_
          | refine x_len rfl rfl (by assumption) rfl (okq_reg rfl rfl) ?_
          | refine x_pick_t rfl rfl rfl rfl (okq_reg rfl rfl) ?_
          | refine x_pick_f rfl rfl rfl rfl (okq_reg rfl rfl) ?_
          | refine x_not rfl rfl rfl (okq_reg rfl rfl) ?_
          | refine x_extract rfl rfl rfl rfl (okq_reg rfl rfl) ?_
          | refine x_nilCheck rfl rfl rfl (okq_reg rfl rfl) ?_
          | refine x_fieldAddr rfl rfl rfl rfl (okq_reg rfl rfl) ?_
          | refine x_skip (okq_reg rfl rfl) rfl rfl rfl ?_
          | refine x_indexAddr1 rfl rfl rfl (by assumption) (by omega) (by omega) rfl (okq_reg rfl rfl) ?_
          | refine x_indexAddr rfl rfl rfl (by assumption) (by omega) (by omega) rfl (okq_reg rfl rfl) ?_
          | refine x_nil ?_
          | refine cw_seq ?_
          | refine nw_seq ?_
          | refine nw_block ?_
          | refine cw_block ?_
          | refine cw_skip ?_
          | refine cw_region ?_
          | refine cw_exit rfl ?_
          | refine cw_true rfl ?_
          | refine cw_false rfl ?_)
        refine x_load rfl rfl (hpmk rfl (fun _ hk => hk.cel cb3 (fun h => h))) rfl (okq_load rfl rfl (by assumption)) ?_
        repeat (first
          | refine x_move rfl rfl rfl (okq_reg rfl rfl) ?_
          | refine x_assign rfl rfl rfl (okq_reg rfl rfl) ?_
          | refine x_add rfl rfl rfl (wrap_i64 (by omega) (by omega)) rfl (okq_reg rfl rfl) ?_
          | refine x_sub_ rfl rfl rfl (wrap_i64 (by omega) (by omega)) rfl (okq_reg rfl rfl) ?_
          | refine x_mul rfl rfl rfl (wrap_i64 (by omega) (by omega)) rfl (okq_reg rfl rfl) ?_
          | refine x_ibin rfl rfl rfl rfl rfl (okq_reg rfl rfl) ?_
          | refine x_len rfl rfl (by assumption) rfl (okq_reg rfl rfl) ?_
          | refine x_pick_t rfl rfl rfl rfl (okq_reg rfl rfl) ?_
          | refine x_pick_f rfl rfl rfl rfl (okq_reg rfl rfl) ?_
          | refine x_not rfl rfl rfl (okq_reg rfl rfl) ?_
          | refine x_extract rfl rfl rfl rfl (okq_reg rfl rfl) ?_
          | refine x_nilCheck rfl rfl rfl (okq_reg rfl rfl) ?_
          | refine x_fieldAddr rfl rfl rfl rfl (okq_reg rfl rfl) ?_
          | refine x_skip (okq_reg rfl rfl) rfl rfl rfl ?_
          | refine x_indexAddr1 rfl rfl rfl (by assumption) (by omega) (by omega) rfl (okq_reg rfl rfl) ?_
          | refine x_indexAddr rfl rfl rfl (by assumption) (by omega) (by omega) rfl (okq_reg rfl rfl) ?_
          | refine x_nil ?_
          | refine cw_seq ?_
          | refine nw_seq ?_
          | refine nw_block ?_
          | refine cw_block ?_
          | refine cw_skip ?_
          | refine cw_region ?_
          | refine cw_exit rfl ?_
          | refine cw_true rfl ?_
          | refine cw_false rfl ?_)
        refine x_slice_h rfl rfl rfl sb (by omega) (by omega) rfl (okq_reg rfl rfl) ?_
        intro u32 hu32 hc32
        have P32 := (hPb3).cut (a := 0) (b := rank q k) hu32 hc32 (by omega) (by omega)
        rw [List.drop_zero] at P32
        refine x_call rfl rfl rfl ⟨rfl, rfl⟩ (merge_Of P31 P32 tp tq (kk p _ _ ga).1 (kk q _ _ gb).1) ?_
        rintro _ H4 ⟨hk4, u4, rfl, hu4⟩
        refine ⟨okm_keep hk4 (fun _ _ h => h), ?_⟩
        rw [mof_ok (by omega) (by omega) (rises_take rp _) (rises_take rq _)] at hu4 ⊢
        simp only [Option.getD_some] at hu4
        have s4 := hu4.ps.sl
        repeat (first
          | refine x_move rfl rfl rfl (okq_reg rfl rfl) ?_
          | refine x_assign rfl rfl rfl (okq_reg rfl rfl) ?_
          | refine x_add rfl rfl rfl (wrap_i64 (by omega) (by omega)) rfl (okq_reg rfl rfl) ?_
          | refine x_sub_ rfl rfl rfl (wrap_i64 (by omega) (by omega)) rfl (okq_reg rfl rfl) ?_
          | refine x_mul rfl rfl rfl (wrap_i64 (by omega) (by omega)) rfl (okq_reg rfl rfl) ?_
          | refine x_ibin rfl rfl rfl rfl rfl (okq_reg rfl rfl) ?_
          | refine x_len rfl rfl (by assumption) rfl (okq_reg rfl rfl) ?_
          | refine x_pick_t rfl rfl rfl rfl (okq_reg rfl rfl) ?_
          | refine x_pick_f rfl rfl rfl rfl (okq_reg rfl rfl) ?_
          | refine x_not rfl rfl rfl (okq_reg rfl rfl) ?_
          | refine x_extract rfl rfl rfl rfl (okq_reg rfl rfl) ?_
          | refine x_nilCheck rfl rfl rfl (okq_reg rfl rfl) ?_
          | refine x_fieldAddr rfl rfl rfl rfl (okq_reg rfl rfl) ?_
          | refine x_skip (okq_reg rfl rfl) rfl rfl rfl ?_
          | refine x_indexAddr1 rfl rfl rfl (by assumption) (by omega) (by omega) rfl (okq_reg rfl rfl) ?_
          | refine x_indexAddr rfl rfl rfl (by assumption) (by omega) (by omega) rfl (okq_reg rfl rfl) ?_
          | refine x_nil ?_
          | refine cw_seq ?_
          | refine nw_seq ?_
          | refine nw_block ?_
          | refine cw_block ?_
          | refine cw_skip ?_
          | refine cw_region ?_
          | refine cw_exit rfl ?_
          | refine cw_true rfl ?_
          | refine cw_false rfl ?_)
        repeat (first
          | refine x_move rfl rfl rfl trivial ?_
          | refine x_assign rfl rfl rfl trivial ?_
          | refine x_add rfl rfl rfl (wrap_i64 (by omega) (by omega)) rfl trivial ?_
          | refine x_sub_ rfl rfl rfl (wrap_i64 (by omega) (by omega)) rfl trivial ?_
          | refine x_mul rfl rfl rfl (wrap_i64 (by omega) (by omega)) rfl trivial ?_
          | refine x_ibin rfl rfl rfl rfl rfl trivial ?_
          | refine x_neg_ rfl rfl (wrap_i64 (by omega) (by omega)) rfl trivial ?_
          | refine x_len rfl rfl (by assumption) rfl trivial ?_
          | refine x_pick_t rfl rfl rfl rfl trivial ?_
          | refine x_pick_f rfl rfl rfl rfl trivial ?_
          | refine x_not rfl rfl rfl trivial ?_
          | refine x_beq rfl rfl rfl rfl trivial ?_
          | refine x_bne rfl rfl rfl rfl trivial ?_
          | refine x_extract rfl rfl rfl rfl trivial ?_
          | refine x_nilCheck rfl rfl rfl trivial ?_
          | refine x_fieldAddr rfl rfl rfl rfl trivial ?_
          | refine x_skip trivial rfl rfl rfl ?_
          | refine x_indexAddr1 rfl rfl rfl (by assumption) (by omega) (by omega) rfl trivial ?_
          | refine x_indexAddr rfl rfl rfl (by assumption) (by omega) (by omega) rfl trivial ?_
          | refine x_nil ?_
          | refine cw_seq ?_
          | refine nw_seq ?_
          | refine nw_block ?_
          | refine cw_block ?_
          | refine cw_skip ?_
          | refine cw_region ?_
          | refine cw_exit rfl ?_
          | refine cw_true rfl ?_
          | refine cw_false rfl ?_)
        have hr4 := Keep.refl Non H4
        have hPa4 := hPa3.keepN hk4
        have hPb4 := hPb3.keepN hk4
        have ca4 := hk4.cel ca3 (fun h => h)
        have cb4 := hk4.cel cb3 (fun h => h)
        refine cw_held (fun _ => Keep Non H4) ⟨[14], [(5, 0), (11, 0)]⟩ (.op 0 (.op 1 (.op 2 (.op 3 (.op 4 (.op 5 (.op 6 (.op 7 (.op 8 (.op 9 (.op 10 (.op 11 (.op 12 (.op 13 (.op 14 (.op 15 (.op 16 (.op 17 (.op 18 (.op 19 (.nil))))))))))))))))))))) panicOk_body mixed (by kernel_rfl) ?_
        repeat (first
          | refine x_move rfl rfl rfl (okq_reg rfl rfl) ?_
          | refine x_assign rfl rfl rfl (okq_reg rfl rfl) ?_
          | refine x_add rfl rfl rfl (wrap_i64 (by omega) (by omega)) rfl (okq_reg rfl rfl) ?_
          | refine x_sub_ rfl rfl rfl (wrap_i64 (by omega) (by omega)) rfl (okq_reg rfl rfl) ?_
          | refine x_mul rfl rfl rfl (wrap_i64 (by omega) (by omega)) rfl (okq_reg rfl rfl) ?_
          | refine x_ibin rfl rfl rfl rfl rfl (okq_reg rfl rfl) ?_
          | refine x_len rfl rfl (by assumption) rfl (okq_reg rfl rfl) ?_
          | refine x_pick_t rfl rfl rfl rfl (okq_reg rfl rfl) ?_
          | refine x_pick_f rfl rfl rfl rfl (okq_reg rfl rfl) ?_
          | refine x_not rfl rfl rfl (okq_reg rfl rfl) ?_
          | refine x_extract rfl rfl rfl rfl (okq_reg rfl rfl) ?_
          | refine x_nilCheck rfl rfl rfl (okq_reg rfl rfl) ?_
          | refine x_fieldAddr rfl rfl rfl rfl (okq_reg rfl rfl) ?_
          | refine x_skip (okq_reg rfl rfl) rfl rfl rfl ?_
          | refine x_indexAddr1 rfl rfl rfl (by assumption) (by omega) (by omega) rfl (okq_reg rfl rfl) ?_
          | refine x_indexAddr rfl rfl rfl (by assumption) (by omega) (by omega) rfl (okq_reg rfl rfl) ?_
          | refine x_nil ?_
          | refine cw_seq ?_
          | refine nw_seq ?_
          | refine nw_block ?_
          | refine cw_block ?_
          | refine cw_skip ?_
          | refine cw_region ?_
          | refine cw_exit rfl ?_
          | refine cw_true rfl ?_
          | refine cw_false rfl ?_)
        refine x_load rfl rfl (hpmk rfl (fun _ hk => hk.cel ca4 (fun h => h))) rfl (okq_load rfl rfl (by assumption)) ?_
        repeat (first
          | refine x_move rfl rfl rfl (okq_reg rfl rfl) ?_
          | refine x_assign rfl rfl rfl (okq_reg rfl rfl) ?_
          | refine x_add rfl rfl rfl (wrap_i64 (by omega) (by omega)) rfl (okq_reg rfl rfl) ?_
          | refine x_sub_ rfl rfl rfl (wrap_i64 (by omega) (by omega)) rfl (okq_reg rfl rfl) ?_
          | refine x_mul rfl rfl rfl (wrap_i64 (by omega) (by omega)) rfl (okq_reg rfl rfl) ?_
          | refine x_ibin rfl rfl rfl rfl rfl (okq_reg rfl rfl) ?_
          | refine x_len rfl rfl (by assumption) rfl (okq_reg rfl rfl) ?_
          | refine x_pick_t rfl rfl rfl rfl (okq_reg rfl rfl) ?_
          | refine x_pick_f rfl rfl rfl rfl (okq_reg rfl rfl) ?_
          | refine x_not rfl rfl rfl (okq_reg rfl rfl) ?_
          | refine x_extract rfl rfl rfl rfl (okq_reg rfl rfl) ?_
          | refine x_nilCheck rfl rfl rfl (okq_reg rfl rfl) ?_
          | refine x_fieldAddr rfl rfl rfl rfl (okq_reg rfl rfl) ?_
          | refine x_skip (okq_reg rfl rfl) rfl rfl rfl ?_
          | refine x_indexAddr1 rfl rfl rfl (by assumption) (by omega) (by omega) rfl (okq_reg rfl rfl) ?_
          | refine x_indexAddr rfl rfl rfl (by assumption) (by omega) (by omega) rfl (okq_reg rfl rfl) ?_
          | refine x_nil ?_
          | refine cw_seq ?_
          | refine nw_seq ?_
          | refine nw_block ?_
          | refine cw_block ?_
          | refine cw_skip ?_
          | refine cw_region ?_
          | refine cw_exit rfl ?_
          | refine cw_true rfl ?_
          | refine cw_false rfl ?_)
        refine x_slice_l rfl rfl rfl sa (by omega) (by omega) rfl (okq_reg rfl rfl) ?_
        intro u41 hu41 hc41
        have P41 := (hPa4).cut (a := rank p k) (b := (p).length) hu41 hc41 (by omega) (by omega)
        rw [List.take_length] at P41
        repeat (first
          | refine x_move rfl rfl rfl (okq_reg rfl rfl) ?_
          | refine x_assign rfl rfl rfl (okq_reg rfl rfl) ?_
          | refine x_add rfl rfl rfl (wrap_i64 (by omega) (by omega)) rfl (okq_reg rfl rfl) ?_
          | refine x_sub_ rfl rfl rfl (wrap_i64 (by omega) (by omega)) rfl (okq_reg rfl rfl) ?_
          | refine x_mul rfl rfl rfl (wrap_i64 (by omega) (by omega)) rfl (okq_reg rfl rfl) ?_
          | refine x_ibin rfl rfl rfl rfl rfl (okq_reg rfl rfl) ?_
          | refine x_len rfl rfl (by assumption) rfl (okq_reg rfl rfl) ?_
          | refine x_pick_t rfl rfl rfl rfl (okq_reg rfl rfl) ?_
          | refine x_pick_f rfl rfl rfl rfl (okq_reg rfl rfl) ?_
          | refine x_not rfl rfl rfl (okq_reg rfl rfl) ?_
          | refine x_extract rfl rfl rfl rfl (okq_reg rfl rfl) ?_
          | refine x_nilCheck rfl rfl rfl (okq_reg rfl rfl) ?_
          | refine x_fieldAddr rfl rfl rfl rfl (okq_reg rfl rfl) ?_
          | refine x_skip (okq_reg rfl rfl) rfl rfl rfl ?_
          | refine x_indexAddr1 rfl rfl rfl (by assumption) (by omega) (by omega) rfl (okq_reg rfl rfl) ?_
          | refine x_indexAddr rfl rfl rfl (by assumption) (by omega) (by omega) rfl (okq_reg rfl rfl) ?_
          | refine x_nil ?_
          | refine cw_seq ?_
          | refine nw_seq ?_
          | refine nw_block ?_
          | refine cw_block ?_
          | refine cw_skip ?_
          | refine cw_region ?_
          | refine cw_exit rfl ?_
          | refine cw_true rfl ?_
          | refine cw_false rfl ?_)
        refine x_load rfl rfl (hpmk rfl (fun _ hk => hk.cel cb4 (fun h => h))) rfl (okq_load rfl rfl (by assumption)) ?_
        repeat (first
          | refine x_move rfl rfl rfl (okq_reg rfl rfl) ?_
          | refine x_assign rfl rfl rfl (okq_reg rfl rfl) ?_
          | refine x_add rfl rfl rfl (wrap_i64 (by omega) (by omega)) rfl (okq_reg rfl rfl) ?_
          | refine x_sub_ rfl rfl rfl (wrap_i64 (by omega) (by omega)) rfl (okq_reg rfl rfl) ?_
          | refine x_mul rfl rfl rfl (wrap_i64 (by omega) (by omega)) rfl (okq_reg rfl rfl) ?_
          | refine x_ibin rfl rfl rfl rfl rfl (okq_reg rfl rfl) ?_
          | refine x_len rfl rfl (by assumption) rfl (okq_reg rfl rfl) ?_
          | refine x_pick_t rfl rfl rfl rfl (okq_reg rfl rfl) ?_
          | refine x_pick_f rfl rfl rfl rfl (okq_reg rfl rfl) ?_
          | refine x_not rfl rfl rfl (okq_reg rfl rfl) ?_
          | refine x_extract rfl rfl rfl rfl (okq_reg rfl rfl) ?_
          | refine x_nilCheck rfl rfl rfl (okq_reg rfl rfl) ?_
          | refine x_fieldAddr rfl rfl rfl rfl (okq_reg rfl rfl) ?_
          | refine x_skip (okq_reg rfl rfl) rfl rfl rfl ?_
          | refine x_indexAddr1 rfl rfl rfl (by assumption) (by omega) (by omega) rfl (okq_reg rfl rfl) ?_
          | refine x_indexAddr rfl rfl rfl (by assumption) (by omega) (by omega) rfl (okq_reg rfl rfl) ?_
          | refine x_nil ?_
          | refine cw_seq ?_
          | refine nw_seq ?_
          | refine nw_block ?_
          | refine cw_block ?_
          | refine cw_skip ?_
          | refine cw_region ?_
          | refine cw_exit rfl ?_
          | refine cw_true rfl ?_
          | refine cw_false rfl ?_)
        refine x_slice_l rfl rfl rfl sb (by omega) (by omega) rfl (okq_reg rfl rfl) ?_
        intro u42 hu42 hc42
        have P42 := (hPb4).cut (a := rank q k) (b := (q).length) hu42 hc42 (by omega) (by omega)
        rw [List.take_length] at P42
        refine x_call rfl rfl rfl ⟨rfl, rfl⟩ (merge_Of P41 P42 dp dq (kk p _ _ ga).2 (kk q _ _ gb).2) ?_
        rintro _ H5 ⟨hk5, u5, rfl, hu5⟩
        refine ⟨okm_keep hk5 (fun _ _ h => h), ?_⟩
        rw [mof_ok (by omega) (by omega) (rises_drop rp _) (rises_drop rq _)] at hu5 ⊢
        simp only [Option.getD_some] at hu5
        have s5 := hu5.ps.sl
        repeat (first
          | refine x_move rfl rfl rfl (okq_reg rfl rfl) ?_
          | refine x_assign rfl rfl rfl (okq_reg rfl rfl) ?_
          | refine x_add rfl rfl rfl (wrap_i64 (by omega) (by omega)) rfl (okq_reg rfl rfl) ?_
          | refine x_sub_ rfl rfl rfl (wrap_i64 (by omega) (by omega)) rfl (okq_reg rfl rfl) ?_
          | refine x_mul rfl rfl rfl (wrap_i64 (by omega) (by omega)) rfl (okq_reg rfl rfl) ?_
          | refine x_ibin rfl rfl rfl rfl rfl (okq_reg rfl rfl) ?_
          | refine x_len rfl rfl (by assumption) rfl (okq_reg rfl rfl) ?_
          | refine x_pick_t rfl rfl rfl rfl (okq_reg rfl rfl) ?_
          | refine x_pick_f rfl rfl rfl rfl (okq_reg rfl rfl) ?_
          | refine x_not rfl rfl rfl (okq_reg rfl rfl) ?_
          | refine x_extract rfl rfl rfl rfl (okq_reg rfl rfl) ?_
          | refine x_nilCheck rfl rfl rfl (okq_reg rfl rfl) ?_
          | refine x_fieldAddr rfl rfl rfl rfl (okq_reg rfl rfl) ?_
          | refine x_skip (okq_reg rfl rfl) rfl rfl rfl ?_
          | refine x_indexAddr1 rfl rfl rfl (by assumption) (by omega) (by omega) rfl (okq_reg rfl rfl) ?_
          | refine x_indexAddr rfl rfl rfl (by assumption) (by omega) (by omega) rfl (okq_reg rfl rfl) ?_
          | refine x_nil ?_
          | refine cw_seq ?_
          | refine nw_seq ?_
          | refine nw_block ?_
          | refine cw_block ?_
          | refine cw_skip ?_
          | refine cw_region ?_
          | refine cw_exit rfl ?_
          | refine cw_true rfl ?_
          | refine cw_false rfl ?_)
        repeat (first
          | refine x_move rfl rfl rfl trivial ?_
          | refine x_assign rfl rfl rfl trivial ?_
          | refine x_add rfl rfl rfl (wrap_i64 (by omega) (by omega)) rfl trivial ?_
          | refine x_sub_ rfl rfl rfl (wrap_i64 (by omega) (by omega)) rfl trivial ?_
          | refine x_mul rfl rfl rfl (wrap_i64 (by omega) (by omega)) rfl trivial ?_
          | refine x_ibin rfl rfl rfl rfl rfl trivial ?_
          | refine x_neg_ rfl rfl (wrap_i64 (by omega) (by omega)) rfl trivial ?_
          | refine x_len rfl rfl (by assumption) rfl trivial ?_
          | refine x_pick_t rfl rfl rfl rfl trivial ?_
          | refine x_pick_f rfl rfl rfl rfl trivial ?_
          | refine x_not rfl rfl rfl trivial ?_
          | refine x_beq rfl rfl rfl rfl trivial ?_
          | refine x_bne rfl rfl rfl rfl trivial ?_
          | refine x_extract rfl rfl rfl rfl trivial ?_
          | refine x_nilCheck rfl rfl rfl trivial ?_
          | refine x_fieldAddr rfl rfl rfl rfl trivial ?_
          | refine x_skip trivial rfl rfl rfl ?_
          | refine x_indexAddr1 rfl rfl rfl (by assumption) (by omega) (by omega) rfl trivial ?_
          | refine x_indexAddr rfl rfl rfl (by assumption) (by omega) (by omega) rfl trivial ?_
          | refine x_nil ?_
          | refine cw_seq ?_
          | refine nw_seq ?_
          | refine nw_block ?_
          | refine cw_block ?_
          | refine cw_skip ?_
          | refine cw_region ?_
          | refine cw_exit rfl ?_
          | refine cw_true rfl ?_
          | refine cw_false rfl ?_)
        have k35 := hk4.non_trans hk5
        obtain ⟨q1, k1, o1, d1⟩ := (hu4.keepN hk5).row
        obtain ⟨q2, k2, o2, d2⟩ := hu5.row
        have m1 := mrg_length (1 + low op 3) (1 + low policy 3) (p.take (rank p k)) (q.take (rank q k))
        have m2 := mrg_length (1 + low op 3) (1 + low policy 3) (p.drop (rank p k)) (q.drop (rank q k))
        have hf4 : 0 < sc u4 → Array.size H3 ≤ X.sb u4 ∧ X.sb u4 < Array.size H4 := fun hc => ⟨hu4.fresh hc, by
          obtain ⟨_, _, o, _⟩ := hu4.row
          exact o.lt hc⟩
        refine x_append (v := u4) (u := u5) (by rfl) (by rfl) (by rfl) rfl rfl rfl o1 o2.sl o2.len o2.cels (pcs_oneC k2 (fun v b h => isSl_oneC h.1.sl)) (by omega) rfl trivial ?_
        intro v6 H6 ap
        refine ⟨trivial, ?_⟩
        have k36 : Keep Non H3 H6 := k35.old ap.keep (fun b hb e => by have := hf4 (by omega); have := e.1; omega)
        have hP6 : Ps H6 v6 (mrg (1 + low op 3) (1 + low policy 3) (p.take (rank p k)) (q.take (rank q k)) ++ mrg (1 + low op 3) (1 + low policy 3) (p.drop (rank p k)) (q.drop (rank q k))) := by
          refine ⟨by rw [List.length_append]; exact ap.own.sl, q1 ++ q2, (k1.mono fun v b h => (h.1.keep ap.keep fun hc e => (h.2 hc).2 e.1).bs).append (k2.mono fun v b h => (h.1.keep ap.keep fun hc e => ?_).bs), by rw [pcs_append]; exact ap.own.cels⟩
          have h1 := (h.2 hc).1
          have h2 := hf4 (by omega)
          have h3 := e.1
          omega
        rw [mrg_parts _ _ rp rq k] at hP6
        have hU3 := (hu3.keepN k36).ps
        have rr := mrg_rises (1 + low op 3) (1 + low policy 3) rp rq
        repeat (first
          | refine x_move rfl rfl rfl trivial ?_
          | refine x_assign rfl rfl rfl trivial ?_
          | refine x_add rfl rfl rfl (wrap_i64 (by omega) (by omega)) rfl trivial ?_
          | refine x_sub_ rfl rfl rfl (wrap_i64 (by omega) (by omega)) rfl trivial ?_
          | refine x_mul rfl rfl rfl (wrap_i64 (by omega) (by omega)) rfl trivial ?_
          | refine x_ibin rfl rfl rfl rfl rfl trivial ?_
          | refine x_neg_ rfl rfl (wrap_i64 (by omega) (by omega)) rfl trivial ?_
          | refine x_len rfl rfl (by assumption) rfl trivial ?_
          | refine x_pick_t rfl rfl rfl rfl trivial ?_
          | refine x_pick_f rfl rfl rfl rfl trivial ?_
          | refine x_not rfl rfl rfl trivial ?_
          | refine x_beq rfl rfl rfl rfl trivial ?_
          | refine x_bne rfl rfl rfl rfl trivial ?_
          | refine x_extract rfl rfl rfl rfl trivial ?_
          | refine x_nilCheck rfl rfl rfl trivial ?_
          | refine x_fieldAddr rfl rfl rfl rfl trivial ?_
          | refine x_skip trivial rfl rfl rfl ?_
          | refine x_indexAddr1 rfl rfl rfl (by assumption) (by omega) (by omega) rfl trivial ?_
          | refine x_indexAddr rfl rfl rfl (by assumption) (by omega) (by omega) rfl trivial ?_
          | refine x_nil ?_
          | refine cw_seq ?_
          | refine nw_seq ?_
          | refine nw_block ?_
          | refine cw_block ?_
          | refine cw_skip ?_
          | refine cw_region ?_
          | refine cw_exit rfl ?_
          | refine cw_true rfl ?_
          | refine cw_false rfl ?_)
        refine x_call rfl rfl rfl trivial (law_SamePairs hP6 hU3) ?_
        rintro _ _ ⟨rfl, rfl⟩
        refine ⟨trivial, ?_⟩
        repeat (first
          | refine x_move rfl rfl rfl trivial ?_
          | refine x_assign rfl rfl rfl trivial ?_
          | refine x_add rfl rfl rfl (wrap_i64 (by omega) (by omega)) rfl trivial ?_
          | refine x_sub_ rfl rfl rfl (wrap_i64 (by omega) (by omega)) rfl trivial ?_
          | refine x_mul rfl rfl rfl (wrap_i64 (by omega) (by omega)) rfl trivial ?_
          | refine x_ibin rfl rfl rfl rfl rfl trivial ?_
          | refine x_neg_ rfl rfl (wrap_i64 (by omega) (by omega)) rfl trivial ?_
          | refine x_len rfl rfl (by assumption) rfl trivial ?_
          | refine x_pick_t rfl rfl rfl rfl trivial ?_
          | refine x_pick_f rfl rfl rfl rfl trivial ?_
          | refine x_not rfl rfl rfl trivial ?_
          | refine x_beq rfl rfl rfl rfl trivial ?_
          | refine x_bne rfl rfl rfl rfl trivial ?_
          | refine x_extract rfl rfl rfl rfl trivial ?_
          | refine x_nilCheck rfl rfl rfl trivial ?_
          | refine x_fieldAddr rfl rfl rfl rfl trivial ?_
          | refine x_skip trivial rfl rfl rfl ?_
          | refine x_indexAddr1 rfl rfl rfl (by assumption) (by omega) (by omega) rfl trivial ?_
          | refine x_indexAddr rfl rfl rfl (by assumption) (by omega) (by omega) rfl trivial ?_
          | refine x_nil ?_
          | refine cw_seq ?_
          | refine nw_seq ?_
          | refine nw_block ?_
          | refine cw_block ?_
          | refine cw_skip ?_
          | refine cw_region ?_
          | refine cw_exit rfl ?_
          | refine cw_true rfl ?_
          | refine cw_false rfl ?_)
        refine x_true 116 rfl (by simp) ?_
        repeat (first
          | refine x_move rfl rfl rfl trivial ?_
          | refine x_assign rfl rfl rfl trivial ?_
          | refine x_add rfl rfl rfl (wrap_i64 (by omega) (by omega)) rfl trivial ?_
          | refine x_sub_ rfl rfl rfl (wrap_i64 (by omega) (by omega)) rfl trivial ?_
          | refine x_mul rfl rfl rfl (wrap_i64 (by omega) (by omega)) rfl trivial ?_
          | refine x_ibin rfl rfl rfl rfl rfl trivial ?_
          | refine x_neg_ rfl rfl (wrap_i64 (by omega) (by omega)) rfl trivial ?_
          | refine x_len rfl rfl (by assumption) rfl trivial ?_
          | refine x_pick_t rfl rfl rfl rfl trivial ?_
          | refine x_pick_f rfl rfl rfl rfl trivial ?_
          | refine x_not rfl rfl rfl trivial ?_
          | refine x_beq rfl rfl rfl rfl trivial ?_
          | refine x_bne rfl rfl rfl rfl trivial ?_
          | refine x_extract rfl rfl rfl rfl trivial ?_
          | refine x_nilCheck rfl rfl rfl trivial ?_
          | refine x_fieldAddr rfl rfl rfl rfl trivial ?_
          | refine x_skip trivial rfl rfl rfl ?_
          | refine x_indexAddr1 rfl rfl rfl (by assumption) (by omega) (by omega) rfl trivial ?_
          | refine x_indexAddr rfl rfl rfl (by assumption) (by omega) (by omega) rfl trivial ?_
          | refine x_nil ?_
          | refine cw_seq ?_
          | refine nw_seq ?_
          | refine nw_block ?_
          | refine cw_block ?_
          | refine cw_skip ?_
          | refine cw_region ?_
          | refine cw_exit rfl ?_
          | refine cw_true rfl ?_
          | refine cw_false rfl ?_)
        refine x_call rfl rfl rfl trivial (ref_Rises hU3) ?_
        rintro _ _ ⟨rfl, rfl⟩
        refine ⟨trivial, ?_⟩
        repeat (first
          | refine x_move rfl rfl rfl trivial ?_
          | refine x_assign rfl rfl rfl trivial ?_
          | refine x_add rfl rfl rfl (wrap_i64 (by omega) (by omega)) rfl trivial ?_
          | refine x_sub_ rfl rfl rfl (wrap_i64 (by omega) (by omega)) rfl trivial ?_
          | refine x_mul rfl rfl rfl (wrap_i64 (by omega) (by omega)) rfl trivial ?_
          | refine x_ibin rfl rfl rfl rfl rfl trivial ?_
          | refine x_neg_ rfl rfl (wrap_i64 (by omega) (by omega)) rfl trivial ?_
          | refine x_len rfl rfl (by assumption) rfl trivial ?_
          | refine x_pick_t rfl rfl rfl rfl trivial ?_
          | refine x_pick_f rfl rfl rfl rfl trivial ?_
          | refine x_not rfl rfl rfl trivial ?_
          | refine x_beq rfl rfl rfl rfl trivial ?_
          | refine x_bne rfl rfl rfl rfl trivial ?_
          | refine x_extract rfl rfl rfl rfl trivial ?_
          | refine x_nilCheck rfl rfl rfl trivial ?_
          | refine x_fieldAddr rfl rfl rfl rfl trivial ?_
          | refine x_skip trivial rfl rfl rfl ?_
          | refine x_indexAddr1 rfl rfl rfl (by assumption) (by omega) (by omega) rfl trivial ?_
          | refine x_indexAddr rfl rfl rfl (by assumption) (by omega) (by omega) rfl trivial ?_
          | refine x_nil ?_
          | refine cw_seq ?_
          | refine nw_seq ?_
          | refine nw_block ?_
          | refine cw_block ?_
          | refine cw_skip ?_
          | refine cw_region ?_
          | refine cw_exit rfl ?_
          | refine cw_true rfl ?_
          | refine cw_false rfl ?_)
        refine x_true 120 rfl (by simp [rr]) ?_
        repeat (first
          | refine x_move rfl rfl rfl trivial ?_
          | refine x_assign rfl rfl rfl trivial ?_
          | refine x_add rfl rfl rfl (wrap_i64 (by omega) (by omega)) rfl trivial ?_
          | refine x_sub_ rfl rfl rfl (wrap_i64 (by omega) (by omega)) rfl trivial ?_
          | refine x_mul rfl rfl rfl (wrap_i64 (by omega) (by omega)) rfl trivial ?_
          | refine x_ibin rfl rfl rfl rfl rfl trivial ?_
          | refine x_neg_ rfl rfl (wrap_i64 (by omega) (by omega)) rfl trivial ?_
          | refine x_len rfl rfl (by assumption) rfl trivial ?_
          | refine x_pick_t rfl rfl rfl rfl trivial ?_
          | refine x_pick_f rfl rfl rfl rfl trivial ?_
          | refine x_not rfl rfl rfl trivial ?_
          | refine x_beq rfl rfl rfl rfl trivial ?_
          | refine x_bne rfl rfl rfl rfl trivial ?_
          | refine x_extract rfl rfl rfl rfl trivial ?_
          | refine x_nilCheck rfl rfl rfl trivial ?_
          | refine x_fieldAddr rfl rfl rfl rfl trivial ?_
          | refine x_skip trivial rfl rfl rfl ?_
          | refine x_indexAddr1 rfl rfl rfl (by assumption) (by omega) (by omega) rfl trivial ?_
          | refine x_indexAddr rfl rfl rfl (by assumption) (by omega) (by omega) rfl trivial ?_
          | refine x_nil ?_
          | refine cw_seq ?_
          | refine nw_seq ?_
          | refine nw_block ?_
          | refine cw_block ?_
          | refine cw_skip ?_
          | refine cw_region ?_
          | refine cw_exit rfl ?_
          | refine cw_true rfl ?_
          | refine cw_false rfl ?_)
        refine x_call rfl rfl rfl trivial (awake19 _) ?_
        rintro _ Hz ⟨rfl, hkz⟩
        refine ⟨trivial, ?_⟩
        repeat (first
          | refine x_move rfl rfl rfl trivial ?_
          | refine x_assign rfl rfl rfl trivial ?_
          | refine x_add rfl rfl rfl (wrap_i64 (by omega) (by omega)) rfl trivial ?_
          | refine x_sub_ rfl rfl rfl (wrap_i64 (by omega) (by omega)) rfl trivial ?_
          | refine x_mul rfl rfl rfl (wrap_i64 (by omega) (by omega)) rfl trivial ?_
          | refine x_ibin rfl rfl rfl rfl rfl trivial ?_
          | refine x_neg_ rfl rfl (wrap_i64 (by omega) (by omega)) rfl trivial ?_
          | refine x_len rfl rfl (by assumption) rfl trivial ?_
          | refine x_pick_t rfl rfl rfl rfl trivial ?_
          | refine x_pick_f rfl rfl rfl rfl trivial ?_
          | refine x_not rfl rfl rfl trivial ?_
          | refine x_beq rfl rfl rfl rfl trivial ?_
          | refine x_bne rfl rfl rfl rfl trivial ?_
          | refine x_extract rfl rfl rfl rfl trivial ?_
          | refine x_nilCheck rfl rfl rfl trivial ?_
          | refine x_fieldAddr rfl rfl rfl rfl trivial ?_
          | refine x_skip trivial rfl rfl rfl ?_
          | refine x_indexAddr1 rfl rfl rfl (by assumption) (by omega) (by omega) rfl trivial ?_
          | refine x_indexAddr rfl rfl rfl (by assumption) (by omega) (by omega) rfl trivial ?_
          | refine x_nil ?_
          | refine cw_seq ?_
          | refine nw_seq ?_
          | refine nw_block ?_
          | refine cw_block ?_
          | refine cw_skip ?_
          | refine cw_region ?_
          | refine cw_exit rfl ?_
          | refine cw_true rfl ?_
          | refine cw_false rfl ?_)
        exact cw_ret1 rfl rfl ⟨rfl, (hk.non_trans (hk3.non_trans k36)).non_trans hkz⟩
end Go.Proofs.Ytghdmamchbecjaa.X
