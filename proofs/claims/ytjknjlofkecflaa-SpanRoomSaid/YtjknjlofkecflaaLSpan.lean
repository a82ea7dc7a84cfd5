/- The statements on span: the walks. -/
import Derived.Test.YtjknjlofkecflaaSpan2
import Derived.Test.YtjknjlofkecflaaBys
import Derived.Test.YtjknjlofkecflaaLow
namespace Go.Proofs.Ytjknjlofkecflaa.X
open Go Go.Proofs
set_option linter.unusedVariables false
set_option maxRecDepth 10000
set_option maxHeartbeats 4000000

theorem hasP_one (m u : Int) (l : Bytes) (bk : List Nat) : hasP ⟨m, u, [(l, true)], bk⟩ 1 = true := rfl

theorem awake6 (H : Heap) : Ret Try.prog 6 [] H (Yes H) := by
  refine ret_of Try.func6 rfl rfl rfl rfl ?_
  intro w0
  repeat (first
    | refine x_move rfl rfl rfl trivial ?_
    | refine x_assign rfl rfl rfl trivial ?_
    | refine x_add rfl rfl rfl (wrap_i64 (by omega) (by omega)) rfl trivial ?_
    | refine x_sub_ rfl rfl rfl (wrap_i64 (by omega) (by omega)) rfl trivial ?_
    | refine x_sub_ rfl rfl rfl (wrap_u32 (by omega) (by omega)) rfl trivial ?_
    | refine x_add rfl rfl rfl (wrap_u32 (by omega) (by omega)) rfl trivial ?_
    | refine x_peqn rfl rfl rfl rfl trivial ?_
    | refine x_pnen rfl rfl rfl rfl trivial ?_
    | refine x_mul rfl rfl rfl (wrap_i64 (by omega) (by omega)) rfl trivial ?_
    | refine x_ibin rfl rfl rfl rfl rfl trivial ?_
    | refine x_neg_ rfl rfl (wrap_i64 (by omega) (by omega)) rfl trivial ?_
    | refine x_len rfl rfl (by assumption) rfl trivial ?_
    | refine x_pick_t rfl rfl rfl rfl trivial ?_
    | refine x_pick_f rfl rfl rfl rfl trivial ?_
    | refine x_not rfl rfl rfl trivial ?_
    | refine x_beq rfl rfl rfl rfl trivial ?_
    | refine x_bne rfl rfl rfl rfl trivial ?_
    | refine x_extract rfl rfl rfl rfl trivial ?_
    | refine x_nilCheck rfl rfl rfl trivial ?_
    | refine x_fieldAddr rfl rfl rfl rfl trivial ?_
    | refine x_skip trivial rfl rfl rfl ?_
    | refine x_indexAddr1 rfl rfl rfl (by assumption) (by omega) (by omega) rfl trivial ?_
    | refine x_indexAddr rfl rfl rfl (by assumption) (by omega) (by omega) rfl trivial ?_
    | refine x_nil ?_
    | refine cw_seq ?_
    | refine nw_seq ?_
    | refine nw_block ?_
    | refine cw_block ?_
    | refine cw_skip ?_
    | refine cw_region ?_
    | refine cw_exit rfl ?_
    | refine cw_true rfl ?_
    | refine cw_false rfl ?_)
  refine x_call rfl rfl rfl trivial (span_New 5 H) ?_
  rintro _ H1 hN
  refine ⟨trivial, ?_⟩
  rcases hN with ⟨h, _⟩ | ⟨_, hk1, b, K1, rfl, hS1, hf1⟩
  · omega
  have hw1 : Pl.Wf ⟨5, 0, [], []⟩ := ⟨by simp, rfl, by simp, by simp, by simp⟩
  repeat (first
    | refine x_move rfl rfl rfl trivial ?_
    | refine x_assign rfl rfl rfl trivial ?_
    | refine x_add rfl rfl rfl (wrap_i64 (by omega) (by omega)) rfl trivial ?_
    | refine x_sub_ rfl rfl rfl (wrap_i64 (by omega) (by omega)) rfl trivial ?_
    | refine x_sub_ rfl rfl rfl (wrap_u32 (by omega) (by omega)) rfl trivial ?_
    | refine x_add rfl rfl rfl (wrap_u32 (by omega) (by omega)) rfl trivial ?_
    | refine x_peqn rfl rfl rfl rfl trivial ?_
    | refine x_pnen rfl rfl rfl rfl trivial ?_
    | refine x_mul rfl rfl rfl (wrap_i64 (by omega) (by omega)) rfl trivial ?_
    | refine x_ibin rfl rfl rfl rfl rfl trivial ?_
    | refine x_neg_ rfl rfl (wrap_i64 (by omega) (by omega)) rfl trivial ?_
    | refine x_len rfl rfl (by assumption) rfl trivial ?_
    | refine x_pick_t rfl rfl rfl rfl trivial ?_
    | refine x_pick_f rfl rfl rfl rfl trivial ?_
    | refine x_not rfl rfl rfl trivial ?_
    | refine x_beq rfl rfl rfl rfl trivial ?_
    | refine x_bne rfl rfl rfl rfl trivial ?_
    | refine x_extract rfl rfl rfl rfl trivial ?_
    | refine x_nilCheck rfl rfl rfl trivial ?_
    | refine x_fieldAddr rfl rfl rfl rfl trivial ?_
    | refine x_skip trivial rfl rfl rfl ?_
    | refine x_indexAddr1 rfl rfl rfl (by assumption) (by omega) (by omega) rfl trivial ?_
    | refine x_indexAddr rfl rfl rfl (by assumption) (by omega) (by omega) rfl trivial ?_
    | refine x_nil ?_
    | refine cw_seq ?_
    | refine nw_seq ?_
    | refine nw_block ?_
    | refine cw_block ?_
    | refine cw_skip ?_
    | refine cw_region ?_
    | refine cw_exit rfl ?_
    | refine cw_true rfl ?_
    | refine cw_false rfl ?_)
  refine x_buildSlice rfl rfl rfl rfl (by omega) (by simp [oneC, Value.oneCell']) rfl trivial ?_
  intro H2a hn2
  refine ⟨trivial, ?_⟩
  repeat (first
    | refine x_move rfl rfl rfl trivial ?_
    | refine x_assign rfl rfl rfl trivial ?_
    | refine x_add rfl rfl rfl (wrap_i64 (by omega) (by omega)) rfl trivial ?_
    | refine x_sub_ rfl rfl rfl (wrap_i64 (by omega) (by omega)) rfl trivial ?_
    | refine x_sub_ rfl rfl rfl (wrap_u32 (by omega) (by omega)) rfl trivial ?_
    | refine x_add rfl rfl rfl (wrap_u32 (by omega) (by omega)) rfl trivial ?_
    | refine x_peqn rfl rfl rfl rfl trivial ?_
    | refine x_pnen rfl rfl rfl rfl trivial ?_
    | refine x_mul rfl rfl rfl (wrap_i64 (by omega) (by omega)) rfl trivial ?_
    | refine x_ibin rfl rfl rfl rfl rfl trivial ?_
    | refine x_neg_ rfl rfl (wrap_i64 (by omega) (by omega)) rfl trivial ?_
    | refine x_len rfl rfl (by assumption) rfl trivial ?_
    | refine x_pick_t rfl rfl rfl rfl trivial ?_
    | refine x_pick_f rfl rfl rfl rfl trivial ?_
    | refine x_not rfl rfl rfl trivial ?_
    | refine x_beq rfl rfl rfl rfl trivial ?_
    | refine x_bne rfl rfl rfl rfl trivial ?_
    | refine x_extract rfl rfl rfl rfl trivial ?_
    | refine x_nilCheck rfl rfl rfl trivial ?_
    | refine x_fieldAddr rfl rfl rfl rfl trivial ?_
    | refine x_skip trivial rfl rfl rfl ?_
    | refine x_indexAddr1 rfl rfl rfl (by assumption) (by omega) (by omega) rfl trivial ?_
    | refine x_indexAddr rfl rfl rfl (by assumption) (by omega) (by omega) rfl trivial ?_
    | refine x_nil ?_
    | refine cw_seq ?_
    | refine nw_seq ?_
    | refine nw_block ?_
    | refine cw_block ?_
    | refine cw_skip ?_
    | refine cw_region ?_
    | refine cw_exit rfl ?_
    | refine cw_true rfl ?_
    | refine cw_false rfl ?_)
  refine x_mark (l := bvs [97, 98, 99]) rfl rfl hn2.raw rfl trivial ?_
  intro H2 hB2 hK2 hs2
  refine ⟨trivial, ?_⟩
  have hb2 := konst_bs hB2 (by decide)
  have hk2 := keep_at hn2.keep hK2 (Nat.le_refl _)
  have hKe : K1 H1.size = 0 := hS1.kin.off (Nat.le_refl _)
  refine x_call rfl rfl rfl trivial (span_Put (hS1.keepN hk2) hw1 hb2 (fun _ => hKe) (by decide) (by decide) (by decide) (by simp)) ?_
  rintro _ H3 ⟨rfl, hk3, K3, hE3, hS3⟩
  refine ⟨trivial, ?_⟩
  have hw3 := putP_wf hw1 [97, 98, 99]
  have e3 : putP ⟨5, 0, [], []⟩ [97, 98, 99] = (1, 0, ⟨5, 3, [([97, 98, 99], true)], []⟩) := rfl
  rw [e3] at hS3 hw3 ⊢
  simp only at hS3 hw3
  have k03 := hf1.keep (hk1.non_trans hk2) hk3 mutP_ne
  have hf3 := hf1.ext hE3 (hk1.non_trans hk2).size
  repeat (first
    | refine x_move rfl rfl rfl trivial ?_
    | refine x_assign rfl rfl rfl trivial ?_
    | refine x_add rfl rfl rfl (wrap_i64 (by omega) (by omega)) rfl trivial ?_
    | refine x_sub_ rfl rfl rfl (wrap_i64 (by omega) (by omega)) rfl trivial ?_
    | refine x_sub_ rfl rfl rfl (wrap_u32 (by omega) (by omega)) rfl trivial ?_
    | refine x_add rfl rfl rfl (wrap_u32 (by omega) (by omega)) rfl trivial ?_
    | refine x_peqn rfl rfl rfl rfl trivial ?_
    | refine x_pnen rfl rfl rfl rfl trivial ?_
    | refine x_mul rfl rfl rfl (wrap_i64 (by omega) (by omega)) rfl trivial ?_
    | refine x_ibin rfl rfl rfl rfl rfl trivial ?_
    | refine x_neg_ rfl rfl (wrap_i64 (by omega) (by omega)) rfl trivial ?_
    | refine x_len rfl rfl (by assumption) rfl trivial ?_
    | refine x_pick_t rfl rfl rfl rfl trivial ?_
    | refine x_pick_f rfl rfl rfl rfl trivial ?_
    | refine x_not rfl rfl rfl trivial ?_
    | refine x_beq rfl rfl rfl rfl trivial ?_
    | refine x_bne rfl rfl rfl rfl trivial ?_
    | refine x_extract rfl rfl rfl rfl trivial ?_
    | refine x_nilCheck rfl rfl rfl trivial ?_
    | refine x_fieldAddr rfl rfl rfl rfl trivial ?_
    | refine x_skip trivial rfl rfl rfl ?_
    | refine x_indexAddr1 rfl rfl rfl (by assumption) (by omega) (by omega) rfl trivial ?_
    | refine x_indexAddr rfl rfl rfl (by assumption) (by omega) (by omega) rfl trivial ?_
    | refine x_nil ?_
    | refine cw_seq ?_
    | refine nw_seq ?_
    | refine nw_block ?_
    | refine cw_block ?_
    | refine cw_skip ?_
    | refine cw_region ?_
    | refine cw_exit rfl ?_
    | refine cw_true rfl ?_
    | refine cw_false rfl ?_)
  refine x_buildSlice rfl rfl rfl rfl (by omega) (by simp [oneC, Value.oneCell']) rfl trivial ?_
  intro H4a hn4
  refine ⟨trivial, ?_⟩
  repeat (first
    | refine x_move rfl rfl rfl trivial ?_
    | refine x_assign rfl rfl rfl trivial ?_
    | refine x_add rfl rfl rfl (wrap_i64 (by omega) (by omega)) rfl trivial ?_
    | refine x_sub_ rfl rfl rfl (wrap_i64 (by omega) (by omega)) rfl trivial ?_
    | refine x_sub_ rfl rfl rfl (wrap_u32 (by omega) (by omega)) rfl trivial ?_
    | refine x_add rfl rfl rfl (wrap_u32 (by omega) (by omega)) rfl trivial ?_
    | refine x_peqn rfl rfl rfl rfl trivial ?_
    | refine x_pnen rfl rfl rfl rfl trivial ?_
    | refine x_mul rfl rfl rfl (wrap_i64 (by omega) (by omega)) rfl trivial ?_
    | refine x_ibin rfl rfl rfl rfl rfl trivial ?_
    | refine x_neg_ rfl rfl (wrap_i64 (by omega) (by omega)) rfl trivial ?_
    | refine x_len rfl rfl (by assumption) rfl trivial ?_
    | refine x_pick_t rfl rfl rfl rfl trivial ?_
    | refine x_pick_f rfl rfl rfl rfl trivial ?_
    | refine x_not rfl rfl rfl trivial ?_
    | refine x_beq rfl rfl rfl rfl trivial ?_
    | refine x_bne rfl rfl rfl rfl trivial ?_
    | refine x_extract rfl rfl rfl rfl trivial ?_
    | refine x_nilCheck rfl rfl rfl trivial ?_
    | refine x_fieldAddr rfl rfl rfl rfl trivial ?_
    | refine x_skip trivial rfl rfl rfl ?_
    | refine x_indexAddr1 rfl rfl rfl (by assumption) (by omega) (by omega) rfl trivial ?_
    | refine x_indexAddr rfl rfl rfl (by assumption) (by omega) (by omega) rfl trivial ?_
    | refine x_nil ?_
    | refine cw_seq ?_
    | refine nw_seq ?_
    | refine nw_block ?_
    | refine cw_block ?_
    | refine cw_skip ?_
    | refine cw_region ?_
    | refine cw_exit rfl ?_
    | refine cw_true rfl ?_
    | refine cw_false rfl ?_)
  refine x_mark (l := bvs [100, 101, 102]) rfl rfl hn4.raw rfl trivial ?_
  intro H4 hB4 hK4 hs4
  refine ⟨trivial, ?_⟩
  have hb4 := konst_bs hB4 (by decide)
  have hk4 := keep_at hn4.keep hK4 (Nat.le_refl _)
  have hKe : K3 H3.size = 0 := hS3.kin.off (Nat.le_refl _)
  refine x_call rfl rfl rfl trivial (span_Put (hS3.keepN hk4) hw3 hb4 (fun _ => hKe) (by decide) (by decide) (by decide) (by simp)) ?_
  rintro _ H5 ⟨rfl, hk5, K5, hE5, hS5⟩
  refine ⟨trivial, ?_⟩
  have e5 : putP ⟨5, 3, [([97, 98, 99], true)], []⟩ [100, 101, 102] = (0, 4, ⟨5, 3, [([97, 98, 99], true)], []⟩) := rfl
  rw [e5] at hS5 ⊢
  simp only at hS5
  have k05 := hf3.keep (k03.non_trans hk4) hk5 mutP_ne
  have hf5 := hf3.ext hE5 (k03.non_trans hk4).size
  repeat (first
    | refine x_move rfl rfl rfl trivial ?_
    | refine x_assign rfl rfl rfl trivial ?_
    | refine x_add rfl rfl rfl (wrap_i64 (by omega) (by omega)) rfl trivial ?_
    | refine x_sub_ rfl rfl rfl (wrap_i64 (by omega) (by omega)) rfl trivial ?_
    | refine x_sub_ rfl rfl rfl (wrap_u32 (by omega) (by omega)) rfl trivial ?_
    | refine x_add rfl rfl rfl (wrap_u32 (by omega) (by omega)) rfl trivial ?_
    | refine x_peqn rfl rfl rfl rfl trivial ?_
    | refine x_pnen rfl rfl rfl rfl trivial ?_
    | refine x_mul rfl rfl rfl (wrap_i64 (by omega) (by omega)) rfl trivial ?_
    | refine x_ibin rfl rfl rfl rfl rfl trivial ?_
    | refine x_neg_ rfl rfl (wrap_i64 (by omega) (by omega)) rfl trivial ?_
    | refine x_len rfl rfl (by assumption) rfl trivial ?_
    | refine x_pick_t rfl rfl rfl rfl trivial ?_
    | refine x_pick_f rfl rfl rfl rfl trivial ?_
    | refine x_not rfl rfl rfl trivial ?_
    | refine x_beq rfl rfl rfl rfl trivial ?_
    | refine x_bne rfl rfl rfl rfl trivial ?_
    | refine x_extract rfl rfl rfl rfl trivial ?_
    | refine x_nilCheck rfl rfl rfl trivial ?_
    | refine x_fieldAddr rfl rfl rfl rfl trivial ?_
    | refine x_skip trivial rfl rfl rfl ?_
    | refine x_indexAddr1 rfl rfl rfl (by assumption) (by omega) (by omega) rfl trivial ?_
    | refine x_indexAddr rfl rfl rfl (by assumption) (by omega) (by omega) rfl trivial ?_
    | refine x_nil ?_
    | refine cw_seq ?_
    | refine nw_seq ?_
    | refine nw_block ?_
    | refine cw_block ?_
    | refine cw_skip ?_
    | refine cw_region ?_
    | refine cw_exit rfl ?_
    | refine cw_true rfl ?_
    | refine cw_false rfl ?_)
  refine x_call rfl rfl rfl trivial (span_Cut (h := 1) (n := 1) hS5 hw3 (by decide) (by decide)) ?_
  rintro _ H6 ⟨rfl, hk6, hS6⟩
  refine ⟨trivial, ?_⟩
  have e6 : cutP ⟨5, 3, [([97, 98, 99], true)], []⟩ 1 1 = (0, ⟨5, 2, [([98, 99], true)], []⟩) := rfl
  have hw6 := cutP_wf hw3 1 1
  rw [e6] at hS6 hw6 ⊢
  simp only at hS6 hw6
  have k06 := hf5.keep k05 hk6 mutP_ne
  repeat (first
    | refine x_move rfl rfl rfl trivial ?_
    | refine x_assign rfl rfl rfl trivial ?_
    | refine x_add rfl rfl rfl (wrap_i64 (by omega) (by omega)) rfl trivial ?_
    | refine x_sub_ rfl rfl rfl (wrap_i64 (by omega) (by omega)) rfl trivial ?_
    | refine x_sub_ rfl rfl rfl (wrap_u32 (by omega) (by omega)) rfl trivial ?_
    | refine x_add rfl rfl rfl (wrap_u32 (by omega) (by omega)) rfl trivial ?_
    | refine x_peqn rfl rfl rfl rfl trivial ?_
    | refine x_pnen rfl rfl rfl rfl trivial ?_
    | refine x_mul rfl rfl rfl (wrap_i64 (by omega) (by omega)) rfl trivial ?_
    | refine x_ibin rfl rfl rfl rfl rfl trivial ?_
    | refine x_neg_ rfl rfl (wrap_i64 (by omega) (by omega)) rfl trivial ?_
    | refine x_len rfl rfl (by assumption) rfl trivial ?_
    | refine x_pick_t rfl rfl rfl rfl trivial ?_
    | refine x_pick_f rfl rfl rfl rfl trivial ?_
    | refine x_not rfl rfl rfl trivial ?_
    | refine x_beq rfl rfl rfl rfl trivial ?_
    | refine x_bne rfl rfl rfl rfl trivial ?_
    | refine x_extract rfl rfl rfl rfl trivial ?_
    | refine x_nilCheck rfl rfl rfl trivial ?_
    | refine x_fieldAddr rfl rfl rfl rfl trivial ?_
    | refine x_skip trivial rfl rfl rfl ?_
    | refine x_indexAddr1 rfl rfl rfl (by assumption) (by omega) (by omega) rfl trivial ?_
    | refine x_indexAddr rfl rfl rfl (by assumption) (by omega) (by omega) rfl trivial ?_
    | refine x_nil ?_
    | refine cw_seq ?_
    | refine nw_seq ?_
    | refine nw_block ?_
    | refine cw_block ?_
    | refine cw_skip ?_
    | refine cw_region ?_
    | refine cw_exit rfl ?_
    | refine cw_true rfl ?_
    | refine cw_false rfl ?_)
  refine x_call rfl rfl rfl trivial (span_Get (h := 1) hS6 (by decide) (by decide) (by simp)) ?_
  rintro _ H7 ⟨hk7, u, rfl, hu, hfu⟩
  refine ⟨trivial, ?_⟩
  have e7 : getP ⟨5, 2, [([98, 99], true)], []⟩ 1 = [98, 99] := rfl
  rw [e7] at hu
  have hS7 := hS6.keepN hk7
  have k07 := k06.non_trans hk7
  have hbu : Bs H7 u [98, 99] := hu.bs
  repeat (first
    | refine x_move rfl rfl rfl trivial ?_
    | refine x_assign rfl rfl rfl trivial ?_
    | refine x_add rfl rfl rfl (wrap_i64 (by omega) (by omega)) rfl trivial ?_
    | refine x_sub_ rfl rfl rfl (wrap_i64 (by omega) (by omega)) rfl trivial ?_
    | refine x_sub_ rfl rfl rfl (wrap_u32 (by omega) (by omega)) rfl trivial ?_
    | refine x_add rfl rfl rfl (wrap_u32 (by omega) (by omega)) rfl trivial ?_
    | refine x_peqn rfl rfl rfl rfl trivial ?_
    | refine x_pnen rfl rfl rfl rfl trivial ?_
    | refine x_mul rfl rfl rfl (wrap_i64 (by omega) (by omega)) rfl trivial ?_
    | refine x_ibin rfl rfl rfl rfl rfl trivial ?_
    | refine x_neg_ rfl rfl (wrap_i64 (by omega) (by omega)) rfl trivial ?_
    | refine x_len rfl rfl (by assumption) rfl trivial ?_
    | refine x_pick_t rfl rfl rfl rfl trivial ?_
    | refine x_pick_f rfl rfl rfl rfl trivial ?_
    | refine x_not rfl rfl rfl trivial ?_
    | refine x_beq rfl rfl rfl rfl trivial ?_
    | refine x_bne rfl rfl rfl rfl trivial ?_
    | refine x_extract rfl rfl rfl rfl trivial ?_
    | refine x_nilCheck rfl rfl rfl trivial ?_
    | refine x_fieldAddr rfl rfl rfl rfl trivial ?_
    | refine x_skip trivial rfl rfl rfl ?_
    | refine x_indexAddr1 rfl rfl rfl (by assumption) (by omega) (by omega) rfl trivial ?_
    | refine x_indexAddr rfl rfl rfl (by assumption) (by omega) (by omega) rfl trivial ?_
    | refine x_nil ?_
    | refine cw_seq ?_
    | refine nw_seq ?_
    | refine nw_block ?_
    | refine cw_block ?_
    | refine cw_skip ?_
    | refine cw_region ?_
    | refine cw_exit rfl ?_
    | refine cw_true rfl ?_
    | refine cw_false rfl ?_)
  refine x_tostr rfl rfl (hpmt hbu) rfl trivial ?_
  refine x_seql rfl rfl rfl rfl trivial ?_
  rw [Lib.toList_data]
  repeat (first
    | refine x_move rfl rfl rfl trivial ?_
    | refine x_assign rfl rfl rfl trivial ?_
    | refine x_add rfl rfl rfl (wrap_i64 (by omega) (by omega)) rfl trivial ?_
    | refine x_sub_ rfl rfl rfl (wrap_i64 (by omega) (by omega)) rfl trivial ?_
    | refine x_sub_ rfl rfl rfl (wrap_u32 (by omega) (by omega)) rfl trivial ?_
    | refine x_add rfl rfl rfl (wrap_u32 (by omega) (by omega)) rfl trivial ?_
    | refine x_peqn rfl rfl rfl rfl trivial ?_
    | refine x_pnen rfl rfl rfl rfl trivial ?_
    | refine x_mul rfl rfl rfl (wrap_i64 (by omega) (by omega)) rfl trivial ?_
    | refine x_ibin rfl rfl rfl rfl rfl trivial ?_
    | refine x_neg_ rfl rfl (wrap_i64 (by omega) (by omega)) rfl trivial ?_
    | refine x_len rfl rfl (by assumption) rfl trivial ?_
    | refine x_pick_t rfl rfl rfl rfl trivial ?_
    | refine x_pick_f rfl rfl rfl rfl trivial ?_
    | refine x_not rfl rfl rfl trivial ?_
    | refine x_beq rfl rfl rfl rfl trivial ?_
    | refine x_bne rfl rfl rfl rfl trivial ?_
    | refine x_extract rfl rfl rfl rfl trivial ?_
    | refine x_nilCheck rfl rfl rfl trivial ?_
    | refine x_fieldAddr rfl rfl rfl rfl trivial ?_
    | refine x_skip trivial rfl rfl rfl ?_
    | refine x_indexAddr1 rfl rfl rfl (by assumption) (by omega) (by omega) rfl trivial ?_
    | refine x_indexAddr rfl rfl rfl (by assumption) (by omega) (by omega) rfl trivial ?_
    | refine x_nil ?_
    | refine cw_seq ?_
    | refine nw_seq ?_
    | refine nw_block ?_
    | refine cw_block ?_
    | refine cw_skip ?_
    | refine cw_region ?_
    | refine cw_exit rfl ?_
    | refine cw_true rfl ?_
    | refine cw_false rfl ?_)
  refine x_call rfl rfl rfl trivial (span_Used hS7) ?_
  rintro _ _ ⟨rfl, rfl⟩
  refine ⟨trivial, ?_⟩
  repeat (first
    | refine x_move rfl rfl rfl trivial ?_
    | refine x_assign rfl rfl rfl trivial ?_
    | refine x_add rfl rfl rfl (wrap_i64 (by omega) (by omega)) rfl trivial ?_
    | refine x_sub_ rfl rfl rfl (wrap_i64 (by omega) (by omega)) rfl trivial ?_
    | refine x_sub_ rfl rfl rfl (wrap_u32 (by omega) (by omega)) rfl trivial ?_
    | refine x_add rfl rfl rfl (wrap_u32 (by omega) (by omega)) rfl trivial ?_
    | refine x_peqn rfl rfl rfl rfl trivial ?_
    | refine x_pnen rfl rfl rfl rfl trivial ?_
    | refine x_mul rfl rfl rfl (wrap_i64 (by omega) (by omega)) rfl trivial ?_
    | refine x_ibin rfl rfl rfl rfl rfl trivial ?_
    | refine x_neg_ rfl rfl (wrap_i64 (by omega) (by omega)) rfl trivial ?_
    | refine x_len rfl rfl (by assumption) rfl trivial ?_
    | refine x_pick_t rfl rfl rfl rfl trivial ?_
    | refine x_pick_f rfl rfl rfl rfl trivial ?_
    | refine x_not rfl rfl rfl trivial ?_
    | refine x_beq rfl rfl rfl rfl trivial ?_
    | refine x_bne rfl rfl rfl rfl trivial ?_
    | refine x_extract rfl rfl rfl rfl trivial ?_
    | refine x_nilCheck rfl rfl rfl trivial ?_
    | refine x_fieldAddr rfl rfl rfl rfl trivial ?_
    | refine x_skip trivial rfl rfl rfl ?_
    | refine x_indexAddr1 rfl rfl rfl (by assumption) (by omega) (by omega) rfl trivial ?_
    | refine x_indexAddr rfl rfl rfl (by assumption) (by omega) (by omega) rfl trivial ?_
    | refine x_nil ?_
    | refine cw_seq ?_
    | refine nw_seq ?_
    | refine nw_block ?_
    | refine cw_block ?_
    | refine cw_skip ?_
    | refine cw_region ?_
    | refine cw_exit rfl ?_
    | refine cw_true rfl ?_
    | refine cw_false rfl ?_)
  refine x_call rfl rfl rfl trivial (span_Live hS7 (by decide) (by decide)) ?_
  rintro _ _ ⟨rfl, rfl⟩
  refine ⟨trivial, ?_⟩
  repeat (first
    | refine x_move rfl rfl rfl trivial ?_
    | refine x_assign rfl rfl rfl trivial ?_
    | refine x_add rfl rfl rfl (wrap_i64 (by omega) (by omega)) rfl trivial ?_
    | refine x_sub_ rfl rfl rfl (wrap_i64 (by omega) (by omega)) rfl trivial ?_
    | refine x_sub_ rfl rfl rfl (wrap_u32 (by omega) (by omega)) rfl trivial ?_
    | refine x_add rfl rfl rfl (wrap_u32 (by omega) (by omega)) rfl trivial ?_
    | refine x_peqn rfl rfl rfl rfl trivial ?_
    | refine x_pnen rfl rfl rfl rfl trivial ?_
    | refine x_mul rfl rfl rfl (wrap_i64 (by omega) (by omega)) rfl trivial ?_
    | refine x_ibin rfl rfl rfl rfl rfl trivial ?_
    | refine x_neg_ rfl rfl (wrap_i64 (by omega) (by omega)) rfl trivial ?_
    | refine x_len rfl rfl (by assumption) rfl trivial ?_
    | refine x_pick_t rfl rfl rfl rfl trivial ?_
    | refine x_pick_f rfl rfl rfl rfl trivial ?_
    | refine x_not rfl rfl rfl trivial ?_
    | refine x_beq rfl rfl rfl rfl trivial ?_
    | refine x_bne rfl rfl rfl rfl trivial ?_
    | refine x_extract rfl rfl rfl rfl trivial ?_
    | refine x_nilCheck rfl rfl rfl trivial ?_
    | refine x_fieldAddr rfl rfl rfl rfl trivial ?_
    | refine x_skip trivial rfl rfl rfl ?_
    | refine x_indexAddr1 rfl rfl rfl (by assumption) (by omega) (by omega) rfl trivial ?_
    | refine x_indexAddr rfl rfl rfl (by assumption) (by omega) (by omega) rfl trivial ?_
    | refine x_nil ?_
    | refine cw_seq ?_
    | refine nw_seq ?_
    | refine nw_block ?_
    | refine cw_block ?_
    | refine cw_skip ?_
    | refine cw_region ?_
    | refine cw_exit rfl ?_
    | refine cw_true rfl ?_
    | refine cw_false rfl ?_)
  refine x_call rfl rfl rfl trivial (span_Drop (h := 9) hS7 hw6 (by decide) (by decide) (by decide)) ?_
  rintro _ H8 ⟨rfl, hk8, K8, hE8, hS8⟩
  refine ⟨trivial, ?_⟩
  have e8 : dropP ⟨5, 2, [([98, 99], true)], []⟩ 9 = (5, ⟨5, 2, [([98, 99], true)], []⟩) := rfl
  rw [e8] at hS8 ⊢
  have k08 := hf5.keep k07 hk8 mutP_ne
  repeat (first
    | refine x_move rfl rfl rfl trivial ?_
    | refine x_assign rfl rfl rfl trivial ?_
    | refine x_add rfl rfl rfl (wrap_i64 (by omega) (by omega)) rfl trivial ?_
    | refine x_sub_ rfl rfl rfl (wrap_i64 (by omega) (by omega)) rfl trivial ?_
    | refine x_sub_ rfl rfl rfl (wrap_u32 (by omega) (by omega)) rfl trivial ?_
    | refine x_add rfl rfl rfl (wrap_u32 (by omega) (by omega)) rfl trivial ?_
    | refine x_peqn rfl rfl rfl rfl trivial ?_
    | refine x_pnen rfl rfl rfl rfl trivial ?_
    | refine x_mul rfl rfl rfl (wrap_i64 (by omega) (by omega)) rfl trivial ?_
    | refine x_ibin rfl rfl rfl rfl rfl trivial ?_
    | refine x_neg_ rfl rfl (wrap_i64 (by omega) (by omega)) rfl trivial ?_
    | refine x_len rfl rfl (by assumption) rfl trivial ?_
    | refine x_pick_t rfl rfl rfl rfl trivial ?_
    | refine x_pick_f rfl rfl rfl rfl trivial ?_
    | refine x_not rfl rfl rfl trivial ?_
    | refine x_beq rfl rfl rfl rfl trivial ?_
    | refine x_bne rfl rfl rfl rfl trivial ?_
    | refine x_extract rfl rfl rfl rfl trivial ?_
    | refine x_nilCheck rfl rfl rfl trivial ?_
    | refine x_fieldAddr rfl rfl rfl rfl trivial ?_
    | refine x_skip trivial rfl rfl rfl ?_
    | refine x_indexAddr1 rfl rfl rfl (by assumption) (by omega) (by omega) rfl trivial ?_
    | refine x_indexAddr rfl rfl rfl (by assumption) (by omega) (by omega) rfl trivial ?_
    | refine x_nil ?_
    | refine cw_seq ?_
    | refine nw_seq ?_
    | refine nw_block ?_
    | refine cw_block ?_
    | refine cw_skip ?_
    | refine cw_region ?_
    | refine cw_exit rfl ?_
    | refine cw_true rfl ?_
    | refine cw_false rfl ?_)
  refine x_call rfl rfl rfl trivial (span_New (-1) H8) ?_
  rintro _ H9 hN
  refine ⟨trivial, ?_⟩
  rcases hN with ⟨_, rfl, rfl⟩ | ⟨h, _⟩
  · repeat (first
      | refine x_move rfl rfl rfl trivial ?_
      | refine x_assign rfl rfl rfl trivial ?_
      | refine x_add rfl rfl rfl (wrap_i64 (by omega) (by omega)) rfl trivial ?_
      | refine x_sub_ rfl rfl rfl (wrap_i64 (by omega) (by omega)) rfl trivial ?_
      | refine x_sub_ rfl rfl rfl (wrap_u32 (by omega) (by omega)) rfl trivial ?_
      | refine x_add rfl rfl rfl (wrap_u32 (by omega) (by omega)) rfl trivial ?_
      | refine x_peqn rfl rfl rfl rfl trivial ?_
      | refine x_pnen rfl rfl rfl rfl trivial ?_
      | refine x_mul rfl rfl rfl (wrap_i64 (by omega) (by omega)) rfl trivial ?_
      | refine x_ibin rfl rfl rfl rfl rfl trivial ?_
      | refine x_neg_ rfl rfl (wrap_i64 (by omega) (by omega)) rfl trivial ?_
      | refine x_len rfl rfl (by assumption) rfl trivial ?_
      | refine x_pick_t rfl rfl rfl rfl trivial ?_
      | refine x_pick_f rfl rfl rfl rfl trivial ?_
      | refine x_not rfl rfl rfl trivial ?_
      | refine x_beq rfl rfl rfl rfl trivial ?_
      | refine x_bne rfl rfl rfl rfl trivial ?_
      | refine x_extract rfl rfl rfl rfl trivial ?_
      | refine x_nilCheck rfl rfl rfl trivial ?_
      | refine x_fieldAddr rfl rfl rfl rfl trivial ?_
      | refine x_skip trivial rfl rfl rfl ?_
      | refine x_indexAddr1 rfl rfl rfl (by assumption) (by omega) (by omega) rfl trivial ?_
      | refine x_indexAddr rfl rfl rfl (by assumption) (by omega) (by omega) rfl trivial ?_
      | refine x_nil ?_
      | refine cw_seq ?_
      | refine nw_seq ?_
      | refine nw_block ?_
      | refine cw_block ?_
      | refine cw_skip ?_
      | refine cw_region ?_
      | refine cw_exit rfl ?_
      | refine cw_true rfl ?_
      | refine cw_false rfl ?_)
    exact cw_ret1 rfl rfl ⟨rfl, k08⟩
  · omega

/-- what is said of a call of a pool -/
abbrev Ac := Int × Int × Nat × Bytes
def encA (a : Int × Int × Int × Value) : List Value := [.int .i64 a.1, .int .i64 a.2.1, .int .u32 a.2.2.1, a.2.2.2]
theorem encA_len (a : Int × Int × Int × Value) : (encA a).length = 4 := rfl
def AcR (H : Heap) (x : Int × Int × Int × Value) (y : Ac) : Prop := x.1 = y.1 ∧ x.2.1 = y.2.1 ∧ x.2.2.1 = (y.2.2.1 : Int) ∧ y.2.2.1 < 4294967296 ∧ Bs H x.2.2.2 y.2.2.2

theorem acR_cells {H : Heap} {x : Int × Int × Int × Value} {y : Ac} (h : AcR H x y) : ∃ v, encA x = [.int .i64 y.1, .int .i64 y.2.1, .int .u32 (y.2.2.1 : Nat), v] ∧ y.2.2.1 < 4294967296 ∧ Bs H v y.2.2.2 := by
  obtain ⟨h1, h2, h3, h4, h5⟩ := h
  refine ⟨x.2.2.2, ?_, h4, h5⟩
  unfold encA
  rw [h1, h2, h3]
theorem putP_lens {p : Pl} {l : Bytes} {n : Nat} (h : ∀ x ∈ p.tx, x.1.length ≤ n) (hl : l.length ≤ n) : ∀ x ∈ (putP p l).2.2.tx, x.1.length ≤ n := by
  unfold putP
  split
  · exact h
  · cases p.back.getLast? with
    | none =>
      intro x hx
      rcases List.mem_append.1 hx with hx | hx
      · exact h x hx
      · have : x = (l, true) := by simpa using hx
        rw [this]
        exact hl
    | some g =>
      intro x hx
      rcases List.mem_or_eq_of_mem_set hx with hx | hx
      · exact h x hx
      · rw [hx]
        exact hl
theorem putP_back (p : Pl) (l : Bytes) : (putP p l).2.2.back.length ≤ p.back.length := by
  unfold putP
  split
  · exact Nat.le_refl _
  · cases p.back.getLast? with
    | none => simp
    | some g => simp
theorem cutP_lens {p : Pl} {h : Nat} {m : Int} {n : Nat} (hp : ∀ x ∈ p.tx, x.1.length ≤ n) : ∀ x ∈ (cutP p h m).2.tx, x.1.length ≤ n := by
  unfold cutP
  by_cases h1 : hasP p h = false
  · rw [if_pos h1]
    exact hp
  · rw [if_neg h1]
    split
    · exact hp
    · intro x hx
      rcases List.mem_or_eq_of_mem_set hx with hx | hx
      · exact hp x hx
      · obtain ⟨_, b, g2⟩ := hasP_iff.1 (show hasP p h = true by simpa using h1)
        have := hp _ (List.mem_of_getElem? g2)
        rw [hx]
        unfold strP
        rw [g2]
        simp only [List.length_drop] at this ⊢
        omega
theorem cutP_back (p : Pl) (h : Nat) (m : Int) : (cutP p h m).2.back.length = p.back.length := by
  unfold cutP
  split
  · rfl
  · split <;> rfl
theorem dropP_lens {p : Pl} {h : Nat} {n : Nat} (hp : ∀ x ∈ p.tx, x.1.length ≤ n) : ∀ x ∈ (dropP p h).2.tx, x.1.length ≤ n := by
  unfold dropP
  split
  · exact hp
  · intro x hx
    rcases List.mem_or_eq_of_mem_set hx with hx | hx
    · exact hp x hx
    · rw [hx]
      exact Nat.zero_le _
theorem dropP_back (p : Pl) (h : Nat) : (dropP p h).2.back.length ≤ p.back.length + 1 := by
  unfold dropP
  split <;> simp
theorem wf_back {p : Pl} (w : p.Wf) {n : Nat} (h : p.tx.length ≤ n) : ∀ g ∈ p.back, g ≤ n := fun g hg => by
  obtain ⟨g1, g2⟩ := w.back g hg
  have := (List.getElem?_eq_some_iff.1 g2).1
  omega

theorem getP_len {p : Pl} {h n : Nat} (hl : ∀ x ∈ p.tx, x.1.length ≤ n) : (getP p h).length ≤ n := by
  unfold getP strP
  split
  · cases e : p.tx[h - 1]? with
    | none => exact Nat.zero_le _
    | some x => exact hl x (List.mem_of_getElem? e)
  · exact Nat.zero_le _

theorem walk_SpanScript {most : Int} {va : Value} {acts : List Ac} {H : Heap} (hA : Rd encA (AcR H) H va acts) :
    Ret Try.prog 3 [.int .i64 most, va] H (Yes H) := by
  have sA := hA.sl
  have cA := sA.cap
  refine ret_of Try.func3 rfl rfl rfl rfl ?_
  intro w0
  repeat (first
    | refine x_move rfl rfl rfl trivial ?_
    | refine x_assign rfl rfl rfl trivial ?_
    | refine x_add rfl rfl rfl (wrap_i64 (by omega) (by omega)) rfl trivial ?_
    | refine x_sub_ rfl rfl rfl (wrap_i64 (by omega) (by omega)) rfl trivial ?_
    | refine x_sub_ rfl rfl rfl (wrap_u32 (by omega) (by omega)) rfl trivial ?_
    | refine x_add rfl rfl rfl (wrap_u32 (by omega) (by omega)) rfl trivial ?_
    | refine x_peqn rfl rfl rfl rfl trivial ?_
    | refine x_pnen rfl rfl rfl rfl trivial ?_
    | refine x_mul rfl rfl rfl (wrap_i64 (by omega) (by omega)) rfl trivial ?_
    | refine x_ibin rfl rfl rfl rfl rfl trivial ?_
    | refine x_neg_ rfl rfl (wrap_i64 (by omega) (by omega)) rfl trivial ?_
    | refine x_len rfl rfl (by assumption) rfl trivial ?_
    | refine x_pick_t rfl rfl rfl rfl trivial ?_
    | refine x_pick_f rfl rfl rfl rfl trivial ?_
    | refine x_not rfl rfl rfl trivial ?_
    | refine x_beq rfl rfl rfl rfl trivial ?_
    | refine x_bne rfl rfl rfl rfl trivial ?_
    | refine x_extract rfl rfl rfl rfl trivial ?_
    | refine x_nilCheck rfl rfl rfl trivial ?_
    | refine x_fieldAddr rfl rfl rfl rfl trivial ?_
    | refine x_skip trivial rfl rfl rfl ?_
    | refine x_indexAddr1 rfl rfl rfl (by assumption) (by omega) (by omega) rfl trivial ?_
    | refine x_indexAddr rfl rfl rfl (by assumption) (by omega) (by omega) rfl trivial ?_
    | refine x_nil ?_
    | refine cw_seq ?_
    | refine nw_seq ?_
    | refine nw_block ?_
    | refine cw_block ?_
    | refine cw_skip ?_
    | refine cw_region ?_
    | refine cw_exit rfl ?_
    | refine cw_true rfl ?_
    | refine cw_false rfl ?_)
  refine cw_cond rfl (fun hlen => ?_) (fun hlen => ?_) <;> (try simp at hlen)
  · repeat (first
      | refine x_move rfl rfl rfl trivial ?_
      | refine x_assign rfl rfl rfl trivial ?_
      | refine x_add rfl rfl rfl (wrap_i64 (by omega) (by omega)) rfl trivial ?_
      | refine x_sub_ rfl rfl rfl (wrap_i64 (by omega) (by omega)) rfl trivial ?_
      | refine x_sub_ rfl rfl rfl (wrap_u32 (by omega) (by omega)) rfl trivial ?_
      | refine x_add rfl rfl rfl (wrap_u32 (by omega) (by omega)) rfl trivial ?_
      | refine x_peqn rfl rfl rfl rfl trivial ?_
      | refine x_pnen rfl rfl rfl rfl trivial ?_
      | refine x_mul rfl rfl rfl (wrap_i64 (by omega) (by omega)) rfl trivial ?_
      | refine x_ibin rfl rfl rfl rfl rfl trivial ?_
      | refine x_neg_ rfl rfl (wrap_i64 (by omega) (by omega)) rfl trivial ?_
      | refine x_len rfl rfl (by assumption) rfl trivial ?_
      | refine x_pick_t rfl rfl rfl rfl trivial ?_
      | refine x_pick_f rfl rfl rfl rfl trivial ?_
      | refine x_not rfl rfl rfl trivial ?_
      | refine x_beq rfl rfl rfl rfl trivial ?_
      | refine x_bne rfl rfl rfl rfl trivial ?_
      | refine x_extract rfl rfl rfl rfl trivial ?_
      | refine x_nilCheck rfl rfl rfl trivial ?_
      | refine x_fieldAddr rfl rfl rfl rfl trivial ?_
      | refine x_skip trivial rfl rfl rfl ?_
      | refine x_indexAddr1 rfl rfl rfl (by assumption) (by omega) (by omega) rfl trivial ?_
      | refine x_indexAddr rfl rfl rfl (by assumption) (by omega) (by omega) rfl trivial ?_
      | refine x_nil ?_
      | refine cw_seq ?_
      | refine nw_seq ?_
      | refine nw_block ?_
      | refine cw_block ?_
      | refine cw_skip ?_
      | refine cw_region ?_
      | refine cw_exit rfl ?_
      | refine cw_true rfl ?_
      | refine cw_false rfl ?_)
    refine x_call rfl rfl rfl trivial (awake6 _) ?_
    rintro _ Hz ⟨rfl, hkz⟩
    refine ⟨trivial, ?_⟩
    repeat (first
      | refine x_move rfl rfl rfl trivial ?_
      | refine x_assign rfl rfl rfl trivial ?_
      | refine x_add rfl rfl rfl (wrap_i64 (by omega) (by omega)) rfl trivial ?_
      | refine x_sub_ rfl rfl rfl (wrap_i64 (by omega) (by omega)) rfl trivial ?_
      | refine x_sub_ rfl rfl rfl (wrap_u32 (by omega) (by omega)) rfl trivial ?_
      | refine x_add rfl rfl rfl (wrap_u32 (by omega) (by omega)) rfl trivial ?_
      | refine x_peqn rfl rfl rfl rfl trivial ?_
      | refine x_pnen rfl rfl rfl rfl trivial ?_
      | refine x_mul rfl rfl rfl (wrap_i64 (by omega) (by omega)) rfl trivial ?_
      | refine x_ibin rfl rfl rfl rfl rfl trivial ?_
      | refine x_neg_ rfl rfl (wrap_i64 (by omega) (by omega)) rfl trivial ?_
      | refine x_len rfl rfl (by assumption) rfl trivial ?_
      | refine x_pick_t rfl rfl rfl rfl trivial ?_
      | refine x_pick_f rfl rfl rfl rfl trivial ?_
      | refine x_not rfl rfl rfl trivial ?_
      | refine x_beq rfl rfl rfl rfl trivial ?_
      | refine x_bne rfl rfl rfl rfl trivial ?_
      | refine x_extract rfl rfl rfl rfl trivial ?_
      | refine x_nilCheck rfl rfl rfl trivial ?_
      | refine x_fieldAddr rfl rfl rfl rfl trivial ?_
      | refine x_skip trivial rfl rfl rfl ?_
      | refine x_indexAddr1 rfl rfl rfl (by assumption) (by omega) (by omega) rfl trivial ?_
      | refine x_indexAddr rfl rfl rfl (by assumption) (by omega) (by omega) rfl trivial ?_
      | refine x_nil ?_
      | refine cw_seq ?_
      | refine nw_seq ?_
      | refine nw_block ?_
      | refine cw_block ?_
      | refine cw_skip ?_
      | refine cw_region ?_
      | refine cw_exit rfl ?_
      | refine cw_true rfl ?_
      | refine cw_false rfl ?_)
    exact cw_ret1 rfl rfl ⟨rfl, (Keep.refl Non H).non_trans hkz⟩
  · repeat (first
      | refine x_move rfl rfl rfl trivial ?_
      | refine x_assign rfl rfl rfl trivial ?_
      | refine x_add rfl rfl rfl (wrap_i64 (by omega) (by omega)) rfl trivial ?_
      | refine x_sub_ rfl rfl rfl (wrap_i64 (by omega) (by omega)) rfl trivial ?_
      | refine x_sub_ rfl rfl rfl (wrap_u32 (by omega) (by omega)) rfl trivial ?_
      | refine x_add rfl rfl rfl (wrap_u32 (by omega) (by omega)) rfl trivial ?_
      | refine x_peqn rfl rfl rfl rfl trivial ?_
      | refine x_pnen rfl rfl rfl rfl trivial ?_
      | refine x_mul rfl rfl rfl (wrap_i64 (by omega) (by omega)) rfl trivial ?_
      | refine x_ibin rfl rfl rfl rfl rfl trivial ?_
      | refine x_neg_ rfl rfl (wrap_i64 (by omega) (by omega)) rfl trivial ?_
      | refine x_len rfl rfl (by assumption) rfl trivial ?_
      | refine x_pick_t rfl rfl rfl rfl trivial ?_
      | refine x_pick_f rfl rfl rfl rfl trivial ?_
      | refine x_not rfl rfl rfl trivial ?_
      | refine x_beq rfl rfl rfl rfl trivial ?_
      | refine x_bne rfl rfl rfl rfl trivial ?_
      | refine x_extract rfl rfl rfl rfl trivial ?_
      | refine x_nilCheck rfl rfl rfl trivial ?_
      | refine x_fieldAddr rfl rfl rfl rfl trivial ?_
      | refine x_skip trivial rfl rfl rfl ?_
      | refine x_indexAddr1 rfl rfl rfl (by assumption) (by omega) (by omega) rfl trivial ?_
      | refine x_indexAddr rfl rfl rfl (by assumption) (by omega) (by omega) rfl trivial ?_
      | refine x_nil ?_
      | refine cw_seq ?_
      | refine nw_seq ?_
      | refine nw_block ?_
      | refine cw_block ?_
      | refine cw_skip ?_
      | refine cw_region ?_
      | refine cw_exit rfl ?_
      | refine cw_true rfl ?_
      | refine cw_false rfl ?_)
    refine x_call rfl rfl rfl trivial (span_New most H) ?_
    rintro _ H1 hN
    refine ⟨trivial, ?_⟩
    repeat (first
      | refine x_move rfl rfl rfl trivial ?_
      | refine x_assign rfl rfl rfl trivial ?_
      | refine x_add rfl rfl rfl (wrap_i64 (by omega) (by omega)) rfl trivial ?_
      | refine x_sub_ rfl rfl rfl (wrap_i64 (by omega) (by omega)) rfl trivial ?_
      | refine x_sub_ rfl rfl rfl (wrap_u32 (by omega) (by omega)) rfl trivial ?_
      | refine x_add rfl rfl rfl (wrap_u32 (by omega) (by omega)) rfl trivial ?_
      | refine x_peqn rfl rfl rfl rfl trivial ?_
      | refine x_pnen rfl rfl rfl rfl trivial ?_
      | refine x_mul rfl rfl rfl (wrap_i64 (by omega) (by omega)) rfl trivial ?_
      | refine x_ibin rfl rfl rfl rfl rfl trivial ?_
      | refine x_neg_ rfl rfl (wrap_i64 (by omega) (by omega)) rfl trivial ?_
      | refine x_len rfl rfl (by assumption) rfl trivial ?_
      | refine x_pick_t rfl rfl rfl rfl trivial ?_
      | refine x_pick_f rfl rfl rfl rfl trivial ?_
      | refine x_not rfl rfl rfl trivial ?_
      | refine x_beq rfl rfl rfl rfl trivial ?_
      | refine x_bne rfl rfl rfl rfl trivial ?_
      | refine x_extract rfl rfl rfl rfl trivial ?_
      | refine x_nilCheck rfl rfl rfl trivial ?_
      | refine x_fieldAddr rfl rfl rfl rfl trivial ?_
      | refine x_skip trivial rfl rfl rfl ?_
      | refine x_indexAddr1 rfl rfl rfl (by assumption) (by omega) (by omega) rfl trivial ?_
      | refine x_indexAddr rfl rfl rfl (by assumption) (by omega) (by omega) rfl trivial ?_
      | refine x_nil ?_
      | refine cw_seq ?_
      | refine nw_seq ?_
      | refine nw_block ?_
      | refine cw_block ?_
      | refine cw_skip ?_
      | refine cw_region ?_
      | refine cw_exit rfl ?_
      | refine cw_true rfl ?_
      | refine cw_false rfl ?_)
    refine x_call rfl rfl rfl trivial (ref6_New most H1) ?_
    rintro _ H2 hN2
    refine ⟨trivial, ?_⟩
    rcases hN with ⟨hm, rfl, rfl⟩ | ⟨hm, hk1, b, K, rfl, hS, hf⟩
    · rcases hN2 with ⟨_, rfl, rfl⟩ | ⟨h, _⟩
      · repeat (first
          | refine x_move rfl rfl rfl trivial ?_
          | refine x_assign rfl rfl rfl trivial ?_
          | refine x_add rfl rfl rfl (wrap_i64 (by omega) (by omega)) rfl trivial ?_
          | refine x_sub_ rfl rfl rfl (wrap_i64 (by omega) (by omega)) rfl trivial ?_
          | refine x_sub_ rfl rfl rfl (wrap_u32 (by omega) (by omega)) rfl trivial ?_
          | refine x_add rfl rfl rfl (wrap_u32 (by omega) (by omega)) rfl trivial ?_
          | refine x_peqn rfl rfl rfl rfl trivial ?_
          | refine x_pnen rfl rfl rfl rfl trivial ?_
          | refine x_mul rfl rfl rfl (wrap_i64 (by omega) (by omega)) rfl trivial ?_
          | refine x_ibin rfl rfl rfl rfl rfl trivial ?_
          | refine x_neg_ rfl rfl (wrap_i64 (by omega) (by omega)) rfl trivial ?_
          | refine x_len rfl rfl (by assumption) rfl trivial ?_
          | refine x_pick_t rfl rfl rfl rfl trivial ?_
          | refine x_pick_f rfl rfl rfl rfl trivial ?_
          | refine x_not rfl rfl rfl trivial ?_
          | refine x_beq rfl rfl rfl rfl trivial ?_
          | refine x_bne rfl rfl rfl rfl trivial ?_
          | refine x_extract rfl rfl rfl rfl trivial ?_
          | refine x_nilCheck rfl rfl rfl trivial ?_
          | refine x_fieldAddr rfl rfl rfl rfl trivial ?_
          | refine x_skip trivial rfl rfl rfl ?_
          | refine x_indexAddr1 rfl rfl rfl (by assumption) (by omega) (by omega) rfl trivial ?_
          | refine x_indexAddr rfl rfl rfl (by assumption) (by omega) (by omega) rfl trivial ?_
          | refine x_nil ?_
          | refine cw_seq ?_
          | refine nw_seq ?_
          | refine nw_block ?_
          | refine cw_block ?_
          | refine cw_skip ?_
          | refine cw_region ?_
          | refine cw_exit rfl ?_
          | refine cw_true rfl ?_
          | refine cw_false rfl ?_)
        refine x_call rfl rfl rfl trivial (awake6 _) ?_
        rintro _ Hz ⟨rfl, hkz⟩
        refine ⟨trivial, ?_⟩
        repeat (first
          | refine x_move rfl rfl rfl trivial ?_
          | refine x_assign rfl rfl rfl trivial ?_
          | refine x_add rfl rfl rfl (wrap_i64 (by omega) (by omega)) rfl trivial ?_
          | refine x_sub_ rfl rfl rfl (wrap_i64 (by omega) (by omega)) rfl trivial ?_
          | refine x_sub_ rfl rfl rfl (wrap_u32 (by omega) (by omega)) rfl trivial ?_
          | refine x_add rfl rfl rfl (wrap_u32 (by omega) (by omega)) rfl trivial ?_
          | refine x_peqn rfl rfl rfl rfl trivial ?_
          | refine x_pnen rfl rfl rfl rfl trivial ?_
          | refine x_mul rfl rfl rfl (wrap_i64 (by omega) (by omega)) rfl trivial ?_
          | refine x_ibin rfl rfl rfl rfl rfl trivial ?_
          | refine x_neg_ rfl rfl (wrap_i64 (by omega) (by omega)) rfl trivial ?_
          | refine x_len rfl rfl (by assumption) rfl trivial ?_
          | refine x_pick_t rfl rfl rfl rfl trivial ?_
          | refine x_pick_f rfl rfl rfl rfl trivial ?_
          | refine x_not rfl rfl rfl trivial ?_
          | refine x_beq rfl rfl rfl rfl trivial ?_
          | refine x_bne rfl rfl rfl rfl trivial ?_
          | refine x_extract rfl rfl rfl rfl trivial ?_
          | refine x_nilCheck rfl rfl rfl trivial ?_
          | refine x_fieldAddr rfl rfl rfl rfl trivial ?_
          | refine x_skip trivial rfl rfl rfl ?_
          | refine x_indexAddr1 rfl rfl rfl (by assumption) (by omega) (by omega) rfl trivial ?_
          | refine x_indexAddr rfl rfl rfl (by assumption) (by omega) (by omega) rfl trivial ?_
          | refine x_nil ?_
          | refine cw_seq ?_
          | refine nw_seq ?_
          | refine nw_block ?_
          | refine cw_block ?_
          | refine cw_skip ?_
          | refine cw_region ?_
          | refine cw_exit rfl ?_
          | refine cw_true rfl ?_
          | refine cw_false rfl ?_)
        exact cw_ret1 rfl rfl ⟨rfl, (Keep.refl Non H).non_trans hkz⟩
      · exact absurd h hm
    · rcases hN2 with ⟨h, _⟩ | ⟨_, hk2, c, G, rfl, hQ, hg⟩
      · exact absurd hm h
      have hK12 : K.Off G := fun x hx => by
        by_cases e : G x = 0
        · exact e
        · have h1 := hg x e
          have h2 := hS.kin x hx
          omega
      have hs1 := hk1.size
      repeat (first
        | refine x_move rfl rfl rfl trivial ?_
        | refine x_assign rfl rfl rfl trivial ?_
        | refine x_add rfl rfl rfl (wrap_i64 (by omega) (by omega)) rfl trivial ?_
        | refine x_sub_ rfl rfl rfl (wrap_i64 (by omega) (by omega)) rfl trivial ?_
        | refine x_sub_ rfl rfl rfl (wrap_u32 (by omega) (by omega)) rfl trivial ?_
        | refine x_add rfl rfl rfl (wrap_u32 (by omega) (by omega)) rfl trivial ?_
        | refine x_peqn rfl rfl rfl rfl trivial ?_
        | refine x_pnen rfl rfl rfl rfl trivial ?_
        | refine x_mul rfl rfl rfl (wrap_i64 (by omega) (by omega)) rfl trivial ?_
        | refine x_ibin rfl rfl rfl rfl rfl trivial ?_
        | refine x_neg_ rfl rfl (wrap_i64 (by omega) (by omega)) rfl trivial ?_
        | refine x_len rfl rfl (by assumption) rfl trivial ?_
        | refine x_pick_t rfl rfl rfl rfl trivial ?_
        | refine x_pick_f rfl rfl rfl rfl trivial ?_
        | refine x_not rfl rfl rfl trivial ?_
        | refine x_beq rfl rfl rfl rfl trivial ?_
        | refine x_bne rfl rfl rfl rfl trivial ?_
        | refine x_extract rfl rfl rfl rfl trivial ?_
        | refine x_nilCheck rfl rfl rfl trivial ?_
        | refine x_fieldAddr rfl rfl rfl rfl trivial ?_
        | refine x_skip trivial rfl rfl rfl ?_
        | refine x_indexAddr1 rfl rfl rfl (by assumption) (by omega) (by omega) rfl trivial ?_
        | refine x_indexAddr rfl rfl rfl (by assumption) (by omega) (by omega) rfl trivial ?_
        | refine x_nil ?_
        | refine cw_seq ?_
        | refine nw_seq ?_
        | refine nw_block ?_
        | refine cw_block ?_
        | refine cw_skip ?_
        | refine cw_region ?_
        | refine cw_exit rfl ?_
        | refine cw_true rfl ?_
        | refine cw_false rfl ?_)
      refine cw_loop (fun s : Nat × Pl => [(1, va), (5, ptr b 0), (6, ptr c 0), (7, .int .i64 s.1)])
        (fun s H' => s.1 ≤ acts.length ∧ s.2.Wf ∧ s.2.tx.length ≤ s.1 ∧ s.2.back.length ≤ s.1 ∧ (∀ x ∈ s.2.tx, x.1.length ≤ 60) ∧ Keep Non H H' ∧ ∃ K G, Sp K H' b s.2 ∧ Sq G H' c s.2 ∧ K.Off G ∧ K.From H.size ∧ G.From H.size)
        (fun s => acts.length - s.1) (0, ⟨most, 0, [], []⟩) (by repeat (first | exact True.intro | refine ⟨rfl, ?_⟩)) ⟨Nat.zero_le _, ⟨hm, rfl, by simp; omega, by simp, by simp⟩, Nat.le_refl _, Nat.le_refl _, by simp, hk1.non_trans hk2, K, G, hS.keepN hk2, hQ, hK12, hf, hg.mono hs1⟩ ?_
      rintro ⟨i, p⟩ H3 ⟨hi, hw, htx, hbk, hln, hk3, K, G, hS, hQ, hKG, hf, hg⟩
      simp only at hi htx hbk
      have hw : p.Wf := hw
      have hln : ∀ x ∈ p.tx, x.1.length ≤ 60 := hln
      have hS : Sp K H3 b p := hS
      have hQ : Sq G H3 c p := hQ
      repeat (first
        | refine x_move rfl rfl rfl trivial ?_
        | refine x_assign rfl rfl rfl trivial ?_
        | refine x_add rfl rfl rfl (wrap_i64 (by omega) (by omega)) rfl trivial ?_
        | refine x_sub_ rfl rfl rfl (wrap_i64 (by omega) (by omega)) rfl trivial ?_
        | refine x_sub_ rfl rfl rfl (wrap_u32 (by omega) (by omega)) rfl trivial ?_
        | refine x_add rfl rfl rfl (wrap_u32 (by omega) (by omega)) rfl trivial ?_
        | refine x_peqn rfl rfl rfl rfl trivial ?_
        | refine x_pnen rfl rfl rfl rfl trivial ?_
        | refine x_mul rfl rfl rfl (wrap_i64 (by omega) (by omega)) rfl trivial ?_
        | refine x_ibin rfl rfl rfl rfl rfl trivial ?_
        | refine x_neg_ rfl rfl (wrap_i64 (by omega) (by omega)) rfl trivial ?_
        | refine x_len rfl rfl (by assumption) rfl trivial ?_
        | refine x_pick_t rfl rfl rfl rfl trivial ?_
        | refine x_pick_f rfl rfl rfl rfl trivial ?_
        | refine x_not rfl rfl rfl trivial ?_
        | refine x_beq rfl rfl rfl rfl trivial ?_
        | refine x_bne rfl rfl rfl rfl trivial ?_
        | refine x_extract rfl rfl rfl rfl trivial ?_
        | refine x_nilCheck rfl rfl rfl trivial ?_
        | refine x_fieldAddr rfl rfl rfl rfl trivial ?_
        | refine x_skip trivial rfl rfl rfl ?_
        | refine x_indexAddr1 rfl rfl rfl (by assumption) (by omega) (by omega) rfl trivial ?_
        | refine x_indexAddr rfl rfl rfl (by assumption) (by omega) (by omega) rfl trivial ?_
        | refine x_nil ?_
        | refine cw_seq ?_
        | refine nw_seq ?_
        | refine nw_block ?_
        | refine cw_block ?_
        | refine cw_skip ?_
        | refine cw_region ?_
        | refine cw_exit rfl ?_
        | refine cw_true rfl ?_
        | refine cw_false rfl ?_)
      refine cw_cond rfl (fun hlt => ?_) (fun hlt => ?_) <;> (try simp at hlt)
      · obtain ⟨⟨dv, n, h, bs⟩, hy⟩ : ∃ y, acts[i]? = some y := ⟨_, List.getElem?_eq_getElem (by omega)⟩
        obtain ⟨x, hx, hc⟩ := hA.cels encA_len hy
        obtain ⟨vB, eA, hh, hB⟩ := acR_cells hx
        rw [eA] at hc
        simp only at hc hh hB
        have hc3 := hc.keep hk3 (fun _ h => h)
        have sB := hB.sl
        repeat (first
          | refine x_move rfl rfl rfl trivial ?_
          | refine x_assign rfl rfl rfl trivial ?_
          | refine x_add rfl rfl rfl (wrap_i64 (by omega) (by omega)) rfl trivial ?_
          | refine x_sub_ rfl rfl rfl (wrap_i64 (by omega) (by omega)) rfl trivial ?_
          | refine x_sub_ rfl rfl rfl (wrap_u32 (by omega) (by omega)) rfl trivial ?_
          | refine x_add rfl rfl rfl (wrap_u32 (by omega) (by omega)) rfl trivial ?_
          | refine x_peqn rfl rfl rfl rfl trivial ?_
          | refine x_pnen rfl rfl rfl rfl trivial ?_
          | refine x_mul rfl rfl rfl (wrap_i64 (by omega) (by omega)) rfl trivial ?_
          | refine x_ibin rfl rfl rfl rfl rfl trivial ?_
          | refine x_neg_ rfl rfl (wrap_i64 (by omega) (by omega)) rfl trivial ?_
          | refine x_len rfl rfl (by assumption) rfl trivial ?_
          | refine x_pick_t rfl rfl rfl rfl trivial ?_
          | refine x_pick_f rfl rfl rfl rfl trivial ?_
          | refine x_not rfl rfl rfl trivial ?_
          | refine x_beq rfl rfl rfl rfl trivial ?_
          | refine x_bne rfl rfl rfl rfl trivial ?_
          | refine x_extract rfl rfl rfl rfl trivial ?_
          | refine x_nilCheck rfl rfl rfl trivial ?_
          | refine x_fieldAddr rfl rfl rfl rfl trivial ?_
          | refine x_skip trivial rfl rfl rfl ?_
          | refine x_indexAddr1 rfl rfl rfl (by assumption) (by omega) (by omega) rfl trivial ?_
          | refine x_indexAddr rfl rfl rfl (by assumption) (by omega) (by omega) rfl trivial ?_
          | refine x_nil ?_
          | refine cw_seq ?_
          | refine nw_seq ?_
          | refine nw_block ?_
          | refine cw_block ?_
          | refine cw_skip ?_
          | refine cw_region ?_
          | refine cw_exit rfl ?_
          | refine cw_true rfl ?_
          | refine cw_false rfl ?_)
        refine x_loads rfl rfl rfl (hpmt hc3) rfl trivial ?_
        refine x_alloc rfl rfl trivial ?_
        intro H4 hn4
        refine ⟨trivial, ?_⟩
        refine x_stores rfl rfl rfl rfl (oc_cons rfl (oc_cons rfl (oc_cons rfl (oc_cons (isSl_oneC sB) oc_nil)))) hn4.blk (by simp) trivial ?_
        intro H5 hB5 hk5 hs5
        refine ⟨trivial, ?_⟩
        have hX5 : Blk H5 H3.size [.int .i64 dv, .int .i64 n, .int .u32 (h : Nat), vB] := hB5
        have k35 : Keep Non H3 H5 := keep_at hn4.keep hk5 (Nat.le_refl _)
        have hS5 := hS.keepN k35
        have hQ5 := hQ.keepN k35
        have k05 := hk3.non_trans k35
        have hB5' := hB.keepN k05
        have kL := hS.kin.off (Nat.le_refl H3.size)
        have gL := hQ.kin.off (Nat.le_refl H3.size)
        have hlt5 := hX5.lt
        have c50 : cel H5 H3.size 0 = some (.int .i64 dv) := by rw [hX5.cel]; rfl
        have c51 : cel H5 H3.size 1 = some (.int .i64 n) := by rw [hX5.cel]; rfl
        have c52 : cel H5 H3.size 2 = some (.int .u32 (h : Nat)) := by rw [hX5.cel]; rfl
        have c53 : cel H5 H3.size 3 = some vB := by rw [hX5.cel]; rfl
        have hback : ∀ g ∈ p.back, g < 4294967296 := fun g hg => by have := wf_back hw htx g hg; omega
        have hln6 : ∀ x ∈ p.tx, x.1.length ≤ 1000000 := fun x hx => by have := hln x hx; omega
        repeat (first
          | refine x_move rfl rfl rfl trivial ?_
          | refine x_assign rfl rfl rfl trivial ?_
          | refine x_add rfl rfl rfl (wrap_i64 (by omega) (by omega)) rfl trivial ?_
          | refine x_sub_ rfl rfl rfl (wrap_i64 (by omega) (by omega)) rfl trivial ?_
          | refine x_sub_ rfl rfl rfl (wrap_u32 (by omega) (by omega)) rfl trivial ?_
          | refine x_add rfl rfl rfl (wrap_u32 (by omega) (by omega)) rfl trivial ?_
          | refine x_peqn rfl rfl rfl rfl trivial ?_
          | refine x_pnen rfl rfl rfl rfl trivial ?_
          | refine x_mul rfl rfl rfl (wrap_i64 (by omega) (by omega)) rfl trivial ?_
          | refine x_ibin rfl rfl rfl rfl rfl trivial ?_
          | refine x_neg_ rfl rfl (wrap_i64 (by omega) (by omega)) rfl trivial ?_
          | refine x_len rfl rfl (by assumption) rfl trivial ?_
          | refine x_pick_t rfl rfl rfl rfl trivial ?_
          | refine x_pick_f rfl rfl rfl rfl trivial ?_
          | refine x_not rfl rfl rfl trivial ?_
          | refine x_beq rfl rfl rfl rfl trivial ?_
          | refine x_bne rfl rfl rfl rfl trivial ?_
          | refine x_extract rfl rfl rfl rfl trivial ?_
          | refine x_nilCheck rfl rfl rfl trivial ?_
          | refine x_fieldAddr rfl rfl rfl rfl trivial ?_
          | refine x_skip trivial rfl rfl rfl ?_
          | refine x_indexAddr1 rfl rfl rfl (by assumption) (by omega) (by omega) rfl trivial ?_
          | refine x_indexAddr rfl rfl rfl (by assumption) (by omega) (by omega) rfl trivial ?_
          | refine x_nil ?_
          | refine cw_seq ?_
          | refine nw_seq ?_
          | refine nw_block ?_
          | refine cw_block ?_
          | refine cw_skip ?_
          | refine cw_region ?_
          | refine cw_exit rfl ?_
          | refine cw_true rfl ?_
          | refine cw_false rfl ?_)
        refine x_load rfl rfl (hpmt (c53)) rfl trivial ?_
        repeat (first
          | refine x_move rfl rfl rfl trivial ?_
          | refine x_assign rfl rfl rfl trivial ?_
          | refine x_add rfl rfl rfl (wrap_i64 (by omega) (by omega)) rfl trivial ?_
          | refine x_sub_ rfl rfl rfl (wrap_i64 (by omega) (by omega)) rfl trivial ?_
          | refine x_sub_ rfl rfl rfl (wrap_u32 (by omega) (by omega)) rfl trivial ?_
          | refine x_add rfl rfl rfl (wrap_u32 (by omega) (by omega)) rfl trivial ?_
          | refine x_peqn rfl rfl rfl rfl trivial ?_
          | refine x_pnen rfl rfl rfl rfl trivial ?_
          | refine x_mul rfl rfl rfl (wrap_i64 (by omega) (by omega)) rfl trivial ?_
          | refine x_ibin rfl rfl rfl rfl rfl trivial ?_
          | refine x_neg_ rfl rfl (wrap_i64 (by omega) (by omega)) rfl trivial ?_
          | refine x_len rfl rfl (by assumption) rfl trivial ?_
          | refine x_pick_t rfl rfl rfl rfl trivial ?_
          | refine x_pick_f rfl rfl rfl rfl trivial ?_
          | refine x_not rfl rfl rfl trivial ?_
          | refine x_beq rfl rfl rfl rfl trivial ?_
          | refine x_bne rfl rfl rfl rfl trivial ?_
          | refine x_extract rfl rfl rfl rfl trivial ?_
          | refine x_nilCheck rfl rfl rfl trivial ?_
          | refine x_fieldAddr rfl rfl rfl rfl trivial ?_
          | refine x_skip trivial rfl rfl rfl ?_
          | refine x_indexAddr1 rfl rfl rfl (by assumption) (by omega) (by omega) rfl trivial ?_
          | refine x_indexAddr rfl rfl rfl (by assumption) (by omega) (by omega) rfl trivial ?_
          | refine x_nil ?_
          | refine cw_seq ?_
          | refine nw_seq ?_
          | refine nw_block ?_
          | refine cw_block ?_
          | refine cw_skip ?_
          | refine cw_region ?_
          | refine cw_exit rfl ?_
          | refine cw_true rfl ?_
          | refine cw_false rfl ?_)
        refine cw_cond rfl (fun hlong => ?_) (fun hlong => ?_) <;> (try simp at hlong)
        · repeat (first
            | refine x_move rfl rfl rfl trivial ?_
            | refine x_assign rfl rfl rfl trivial ?_
            | refine x_add rfl rfl rfl (wrap_i64 (by omega) (by omega)) rfl trivial ?_
            | refine x_sub_ rfl rfl rfl (wrap_i64 (by omega) (by omega)) rfl trivial ?_
            | refine x_sub_ rfl rfl rfl (wrap_u32 (by omega) (by omega)) rfl trivial ?_
            | refine x_add rfl rfl rfl (wrap_u32 (by omega) (by omega)) rfl trivial ?_
            | refine x_peqn rfl rfl rfl rfl trivial ?_
            | refine x_pnen rfl rfl rfl rfl trivial ?_
            | refine x_mul rfl rfl rfl (wrap_i64 (by omega) (by omega)) rfl trivial ?_
            | refine x_ibin rfl rfl rfl rfl rfl trivial ?_
            | refine x_neg_ rfl rfl (wrap_i64 (by omega) (by omega)) rfl trivial ?_
            | refine x_len rfl rfl (by assumption) rfl trivial ?_
            | refine x_pick_t rfl rfl rfl rfl trivial ?_
            | refine x_pick_f rfl rfl rfl rfl trivial ?_
            | refine x_not rfl rfl rfl trivial ?_
            | refine x_beq rfl rfl rfl rfl trivial ?_
            | refine x_bne rfl rfl rfl rfl trivial ?_
            | refine x_extract rfl rfl rfl rfl trivial ?_
            | refine x_nilCheck rfl rfl rfl trivial ?_
            | refine x_fieldAddr rfl rfl rfl rfl trivial ?_
            | refine x_skip trivial rfl rfl rfl ?_
            | refine x_indexAddr1 rfl rfl rfl (by assumption) (by omega) (by omega) rfl trivial ?_
            | refine x_indexAddr rfl rfl rfl (by assumption) (by omega) (by omega) rfl trivial ?_
            | refine x_nil ?_
            | refine cw_seq ?_
            | refine nw_seq ?_
            | refine nw_block ?_
            | refine cw_block ?_
            | refine cw_skip ?_
            | refine cw_region ?_
            | refine cw_exit rfl ?_
            | refine cw_true rfl ?_
            | refine cw_false rfl ?_)
          refine x_call rfl rfl rfl trivial (awake6 _) ?_
          rintro _ Hz ⟨rfl, hkz⟩
          refine ⟨trivial, ?_⟩
          repeat (first
            | refine x_move rfl rfl rfl trivial ?_
            | refine x_assign rfl rfl rfl trivial ?_
            | refine x_add rfl rfl rfl (wrap_i64 (by omega) (by omega)) rfl trivial ?_
            | refine x_sub_ rfl rfl rfl (wrap_i64 (by omega) (by omega)) rfl trivial ?_
            | refine x_sub_ rfl rfl rfl (wrap_u32 (by omega) (by omega)) rfl trivial ?_
            | refine x_add rfl rfl rfl (wrap_u32 (by omega) (by omega)) rfl trivial ?_
            | refine x_peqn rfl rfl rfl rfl trivial ?_
            | refine x_pnen rfl rfl rfl rfl trivial ?_
            | refine x_mul rfl rfl rfl (wrap_i64 (by omega) (by omega)) rfl trivial ?_
            | refine x_ibin rfl rfl rfl rfl rfl trivial ?_
            | refine x_neg_ rfl rfl (wrap_i64 (by omega) (by omega)) rfl trivial ?_
            | refine x_len rfl rfl (by assumption) rfl trivial ?_
            | refine x_pick_t rfl rfl rfl rfl trivial ?_
            | refine x_pick_f rfl rfl rfl rfl trivial ?_
            | refine x_not rfl rfl rfl trivial ?_
            | refine x_beq rfl rfl rfl rfl trivial ?_
            | refine x_bne rfl rfl rfl rfl trivial ?_
            | refine x_extract rfl rfl rfl rfl trivial ?_
            | refine x_nilCheck rfl rfl rfl trivial ?_
            | refine x_fieldAddr rfl rfl rfl rfl trivial ?_
            | refine x_skip trivial rfl rfl rfl ?_
            | refine x_indexAddr1 rfl rfl rfl (by assumption) (by omega) (by omega) rfl trivial ?_
            | refine x_indexAddr rfl rfl rfl (by assumption) (by omega) (by omega) rfl trivial ?_
            | refine x_nil ?_
            | refine cw_seq ?_
            | refine nw_seq ?_
            | refine nw_block ?_
            | refine cw_block ?_
            | refine cw_skip ?_
            | refine cw_region ?_
            | refine cw_exit rfl ?_
            | refine cw_true rfl ?_
            | refine cw_false rfl ?_)
          exact cw_ret1 rfl rfl ⟨rfl, (k05).non_trans hkz⟩
        · repeat (first
            | refine x_move rfl rfl rfl trivial ?_
            | refine x_assign rfl rfl rfl trivial ?_
            | refine x_add rfl rfl rfl (wrap_i64 (by omega) (by omega)) rfl trivial ?_
            | refine x_sub_ rfl rfl rfl (wrap_i64 (by omega) (by omega)) rfl trivial ?_
            | refine x_sub_ rfl rfl rfl (wrap_u32 (by omega) (by omega)) rfl trivial ?_
            | refine x_add rfl rfl rfl (wrap_u32 (by omega) (by omega)) rfl trivial ?_
            | refine x_peqn rfl rfl rfl rfl trivial ?_
            | refine x_pnen rfl rfl rfl rfl trivial ?_
            | refine x_mul rfl rfl rfl (wrap_i64 (by omega) (by omega)) rfl trivial ?_
            | refine x_ibin rfl rfl rfl rfl rfl trivial ?_
            | refine x_neg_ rfl rfl (wrap_i64 (by omega) (by omega)) rfl trivial ?_
            | refine x_len rfl rfl (by assumption) rfl trivial ?_
            | refine x_pick_t rfl rfl rfl rfl trivial ?_
            | refine x_pick_f rfl rfl rfl rfl trivial ?_
            | refine x_not rfl rfl rfl trivial ?_
            | refine x_beq rfl rfl rfl rfl trivial ?_
            | refine x_bne rfl rfl rfl rfl trivial ?_
            | refine x_extract rfl rfl rfl rfl trivial ?_
            | refine x_nilCheck rfl rfl rfl trivial ?_
            | refine x_fieldAddr rfl rfl rfl rfl trivial ?_
            | refine x_skip trivial rfl rfl rfl ?_
            | refine x_indexAddr1 rfl rfl rfl (by assumption) (by omega) (by omega) rfl trivial ?_
            | refine x_indexAddr rfl rfl rfl (by assumption) (by omega) (by omega) rfl trivial ?_
            | refine x_nil ?_
            | refine cw_seq ?_
            | refine nw_seq ?_
            | refine nw_block ?_
            | refine cw_block ?_
            | refine cw_skip ?_
            | refine cw_region ?_
            | refine cw_exit rfl ?_
            | refine cw_true rfl ?_
            | refine cw_false rfl ?_)
          refine x_load rfl rfl (hpmt (c50)) rfl trivial ?_
          repeat (first
            | refine x_move rfl rfl rfl trivial ?_
            | refine x_assign rfl rfl rfl trivial ?_
            | refine x_add rfl rfl rfl (wrap_i64 (by omega) (by omega)) rfl trivial ?_
            | refine x_sub_ rfl rfl rfl (wrap_i64 (by omega) (by omega)) rfl trivial ?_
            | refine x_mul rfl rfl rfl (wrap_i64 (by omega) (by omega)) rfl trivial ?_
            | refine x_ibin rfl rfl rfl rfl rfl trivial ?_
            | refine x_neg_ rfl rfl (wrap_i64 (by omega) (by omega)) rfl trivial ?_
            | refine x_len rfl rfl (by assumption) rfl trivial ?_
            | refine x_pick_t rfl rfl rfl rfl trivial ?_
            | refine x_pick_f rfl rfl rfl rfl trivial ?_
            | refine x_not rfl rfl rfl trivial ?_
            | refine x_beq rfl rfl rfl rfl trivial ?_
            | refine x_bne rfl rfl rfl rfl trivial ?_
            | refine x_extract rfl rfl rfl rfl trivial ?_
            | refine x_nilCheck rfl rfl rfl trivial ?_
            | refine x_fieldAddr rfl rfl rfl rfl trivial ?_
            | refine x_skip trivial rfl rfl rfl ?_
            | refine x_indexAddr1 rfl rfl rfl (by assumption) (by omega) (by omega) rfl trivial ?_
            | refine x_indexAddr rfl rfl rfl (by assumption) (by omega) (by omega) rfl trivial ?_
            | refine x_nil ?_
            | refine cw_seq ?_
            | refine nw_seq ?_
            | refine nw_block ?_
            | refine cw_skip ?_
            | refine cw_exit rfl ?_
            | refine cw_true rfl ?_
            | refine cw_false rfl ?_)
          refine cw_cut (fun s : Bool × Pl => [(1, va), (5, ptr b 0), (6, ptr c 0), (7, .int .i64 i), (8, ptr H3.size 0), (9, .bool s.1)])
            (fun s H' => s.1 = true ∧ s.2.Wf ∧ s.2.tx.length ≤ i + 1 ∧ s.2.back.length ≤ i + 1 ∧ (∀ x ∈ s.2.tx, x.1.length ≤ 60) ∧ Keep Non H H' ∧ Blk H' H3.size [.int .i64 dv, .int .i64 n, .int .u32 (h : Nat), vB] ∧ H5.size ≤ H'.size ∧
              ∃ K G, Sp K H' b s.2 ∧ Sq G H' c s.2 ∧ K.Off G ∧ K.From H.size ∧ G.From H.size ∧ K H3.size = 0 ∧ G H3.size = 0) ?_ ?_
          · repeat (first
              | refine x_move rfl rfl rfl trivial ?_
              | refine x_assign rfl rfl rfl trivial ?_
              | refine x_add rfl rfl rfl (wrap_i64 (by omega) (by omega)) rfl trivial ?_
              | refine x_sub_ rfl rfl rfl (wrap_i64 (by omega) (by omega)) rfl trivial ?_
              | refine x_sub_ rfl rfl rfl (wrap_u32 (by omega) (by omega)) rfl trivial ?_
              | refine x_add rfl rfl rfl (wrap_u32 (by omega) (by omega)) rfl trivial ?_
              | refine x_peqn rfl rfl rfl rfl trivial ?_
              | refine x_pnen rfl rfl rfl rfl trivial ?_
              | refine x_mul rfl rfl rfl (wrap_i64 (by omega) (by omega)) rfl trivial ?_
              | refine x_ibin rfl rfl rfl rfl rfl trivial ?_
              | refine x_neg_ rfl rfl (wrap_i64 (by omega) (by omega)) rfl trivial ?_
              | refine x_len rfl rfl (by assumption) rfl trivial ?_
              | refine x_pick_t rfl rfl rfl rfl trivial ?_
              | refine x_pick_f rfl rfl rfl rfl trivial ?_
              | refine x_not rfl rfl rfl trivial ?_
              | refine x_beq rfl rfl rfl rfl trivial ?_
              | refine x_bne rfl rfl rfl rfl trivial ?_
              | refine x_extract rfl rfl rfl rfl trivial ?_
              | refine x_nilCheck rfl rfl rfl trivial ?_
              | refine x_fieldAddr rfl rfl rfl rfl trivial ?_
              | refine x_skip trivial rfl rfl rfl ?_
              | refine x_indexAddr1 rfl rfl rfl (by assumption) (by omega) (by omega) rfl trivial ?_
              | refine x_indexAddr rfl rfl rfl (by assumption) (by omega) (by omega) rfl trivial ?_
              | refine x_nil ?_
              | refine cw_seq ?_
              | refine nw_seq ?_
              | refine nw_block ?_
              | refine cw_block ?_
              | refine cw_skip ?_
              | refine cw_region ?_
              | refine cw_exit rfl ?_
              | refine cw_true rfl ?_
              | refine cw_false rfl ?_)
            refine cw_cond rfl (fun hd0 => ?_) (fun hd0 => ?_) <;> (try simp at hd0)
            · repeat (first
                | refine x_move rfl rfl rfl trivial ?_
                | refine x_assign rfl rfl rfl trivial ?_
                | refine x_add rfl rfl rfl (wrap_i64 (by omega) (by omega)) rfl trivial ?_
                | refine x_sub_ rfl rfl rfl (wrap_i64 (by omega) (by omega)) rfl trivial ?_
                | refine x_sub_ rfl rfl rfl (wrap_u32 (by omega) (by omega)) rfl trivial ?_
                | refine x_add rfl rfl rfl (wrap_u32 (by omega) (by omega)) rfl trivial ?_
                | refine x_peqn rfl rfl rfl rfl trivial ?_
                | refine x_pnen rfl rfl rfl rfl trivial ?_
                | refine x_mul rfl rfl rfl (wrap_i64 (by omega) (by omega)) rfl trivial ?_
                | refine x_ibin rfl rfl rfl rfl rfl trivial ?_
                | refine x_neg_ rfl rfl (wrap_i64 (by omega) (by omega)) rfl trivial ?_
                | refine x_len rfl rfl (by assumption) rfl trivial ?_
                | refine x_pick_t rfl rfl rfl rfl trivial ?_
                | refine x_pick_f rfl rfl rfl rfl trivial ?_
                | refine x_not rfl rfl rfl trivial ?_
                | refine x_beq rfl rfl rfl rfl trivial ?_
                | refine x_bne rfl rfl rfl rfl trivial ?_
                | refine x_extract rfl rfl rfl rfl trivial ?_
                | refine x_nilCheck rfl rfl rfl trivial ?_
                | refine x_fieldAddr rfl rfl rfl rfl trivial ?_
                | refine x_skip trivial rfl rfl rfl ?_
                | refine x_indexAddr1 rfl rfl rfl (by assumption) (by omega) (by omega) rfl trivial ?_
                | refine x_indexAddr rfl rfl rfl (by assumption) (by omega) (by omega) rfl trivial ?_
                | refine x_nil ?_
                | refine cw_seq ?_
                | refine nw_seq ?_
                | refine nw_block ?_
                | refine cw_block ?_
                | refine cw_skip ?_
                | refine cw_region ?_
                | refine cw_exit rfl ?_
                | refine cw_true rfl ?_
                | refine cw_false rfl ?_)
              refine x_load rfl rfl (hpmt (c53)) rfl trivial ?_
              repeat (first
                | refine x_move rfl rfl rfl trivial ?_
                | refine x_assign rfl rfl rfl trivial ?_
                | refine x_add rfl rfl rfl (wrap_i64 (by omega) (by omega)) rfl trivial ?_
                | refine x_sub_ rfl rfl rfl (wrap_i64 (by omega) (by omega)) rfl trivial ?_
                | refine x_sub_ rfl rfl rfl (wrap_u32 (by omega) (by omega)) rfl trivial ?_
                | refine x_add rfl rfl rfl (wrap_u32 (by omega) (by omega)) rfl trivial ?_
                | refine x_peqn rfl rfl rfl rfl trivial ?_
                | refine x_pnen rfl rfl rfl rfl trivial ?_
                | refine x_mul rfl rfl rfl (wrap_i64 (by omega) (by omega)) rfl trivial ?_
                | refine x_ibin rfl rfl rfl rfl rfl trivial ?_
                | refine x_neg_ rfl rfl (wrap_i64 (by omega) (by omega)) rfl trivial ?_
                | refine x_len rfl rfl (by assumption) rfl trivial ?_
                | refine x_pick_t rfl rfl rfl rfl trivial ?_
                | refine x_pick_f rfl rfl rfl rfl trivial ?_
                | refine x_not rfl rfl rfl trivial ?_
                | refine x_beq rfl rfl rfl rfl trivial ?_
                | refine x_bne rfl rfl rfl rfl trivial ?_
                | refine x_extract rfl rfl rfl rfl trivial ?_
                | refine x_nilCheck rfl rfl rfl trivial ?_
                | refine x_fieldAddr rfl rfl rfl rfl trivial ?_
                | refine x_skip trivial rfl rfl rfl ?_
                | refine x_indexAddr1 rfl rfl rfl (by assumption) (by omega) (by omega) rfl trivial ?_
                | refine x_indexAddr rfl rfl rfl (by assumption) (by omega) (by omega) rfl trivial ?_
                | refine x_nil ?_
                | refine cw_seq ?_
                | refine nw_seq ?_
                | refine nw_block ?_
                | refine cw_block ?_
                | refine cw_skip ?_
                | refine cw_region ?_
                | refine cw_exit rfl ?_
                | refine cw_true rfl ?_
                | refine cw_false rfl ?_)
              refine x_call rfl rfl rfl trivial (law_LendBytes hB5' (by omega)) ?_
              rintro v H6 ⟨hk6, hL6, hf6⟩
              refine ⟨trivial, ?_⟩
              have hcap := hL6.cap
              have kv := hS5.kin.off (hf6 (by omega))
              have gv := hQ5.kin.off (hf6 (by omega))
              have hvlt := hL6.lt
              repeat (first
                | refine x_move rfl rfl rfl trivial ?_
                | refine x_assign rfl rfl rfl trivial ?_
                | refine x_add rfl rfl rfl (wrap_i64 (by omega) (by omega)) rfl trivial ?_
                | refine x_sub_ rfl rfl rfl (wrap_i64 (by omega) (by omega)) rfl trivial ?_
                | refine x_sub_ rfl rfl rfl (wrap_u32 (by omega) (by omega)) rfl trivial ?_
                | refine x_add rfl rfl rfl (wrap_u32 (by omega) (by omega)) rfl trivial ?_
                | refine x_peqn rfl rfl rfl rfl trivial ?_
                | refine x_pnen rfl rfl rfl rfl trivial ?_
                | refine x_mul rfl rfl rfl (wrap_i64 (by omega) (by omega)) rfl trivial ?_
                | refine x_ibin rfl rfl rfl rfl rfl trivial ?_
                | refine x_neg_ rfl rfl (wrap_i64 (by omega) (by omega)) rfl trivial ?_
                | refine x_len rfl rfl (by assumption) rfl trivial ?_
                | refine x_pick_t rfl rfl rfl rfl trivial ?_
                | refine x_pick_f rfl rfl rfl rfl trivial ?_
                | refine x_not rfl rfl rfl trivial ?_
                | refine x_beq rfl rfl rfl rfl trivial ?_
                | refine x_bne rfl rfl rfl rfl trivial ?_
                | refine x_extract rfl rfl rfl rfl trivial ?_
                | refine x_nilCheck rfl rfl rfl trivial ?_
                | refine x_fieldAddr rfl rfl rfl rfl trivial ?_
                | refine x_skip trivial rfl rfl rfl ?_
                | refine x_indexAddr1 rfl rfl rfl (by assumption) (by omega) (by omega) rfl trivial ?_
                | refine x_indexAddr rfl rfl rfl (by assumption) (by omega) (by omega) rfl trivial ?_
                | refine x_nil ?_
                | refine cw_seq ?_
                | refine nw_seq ?_
                | refine nw_block ?_
                | refine cw_block ?_
                | refine cw_skip ?_
                | refine cw_region ?_
                | refine cw_exit rfl ?_
                | refine cw_true rfl ?_
                | refine cw_false rfl ?_)
              refine x_call rfl rfl rfl trivial (span_Put (hS5.keepN hk6) hw hL6.bs (fun _ => kv) (by omega) (by omega) (by omega) hback) ?_
              rintro _ H7 ⟨rfl, hk7, K7, hE7, hS7⟩
              refine ⟨trivial, ?_⟩
              have hS7 : Sp K7 H7 b (putP p bs).2.2 := hS7
              have k07 := hf.keep (k05.non_trans hk6) hk7 mutP_ne
              have hL7 := hL6.keep hk7 (fun e => mutP_ne _ e kv)
              have hQ7 := (hQ5.keepN hk6).keep hk7 (hKG.keep hk7 mutP_ne)
              have hX7 := (hX5.keep hk6 (fun h => h)).keep hk7 (fun e => mutP_ne _ e kL)
              have c73 : cel H7 H3.size 3 = some vB := by rw [hX7.cel]; rfl
              have hB7 := hB.keepN k07
              have kv7 : K7 (sb v) = 0 := by rw [hE7.old _ hvlt]; exact kv
              have kL7 : K7 H3.size = 0 := by rw [hE7.old _ (by have := hk6.size; omega)]; exact kL
              have hf7 := hf.ext hE7 (k05.non_trans hk6).size
              have hKG7 := hKG.ext (hQ5.keepN hk6).kin hE7
              repeat (first
                | refine x_move rfl rfl rfl trivial ?_
                | refine x_assign rfl rfl rfl trivial ?_
                | refine x_add rfl rfl rfl (wrap_i64 (by omega) (by omega)) rfl trivial ?_
                | refine x_sub_ rfl rfl rfl (wrap_i64 (by omega) (by omega)) rfl trivial ?_
                | refine x_sub_ rfl rfl rfl (wrap_u32 (by omega) (by omega)) rfl trivial ?_
                | refine x_add rfl rfl rfl (wrap_u32 (by omega) (by omega)) rfl trivial ?_
                | refine x_peqn rfl rfl rfl rfl trivial ?_
                | refine x_pnen rfl rfl rfl rfl trivial ?_
                | refine x_mul rfl rfl rfl (wrap_i64 (by omega) (by omega)) rfl trivial ?_
                | refine x_ibin rfl rfl rfl rfl rfl trivial ?_
                | refine x_neg_ rfl rfl (wrap_i64 (by omega) (by omega)) rfl trivial ?_
                | refine x_len rfl rfl (by assumption) rfl trivial ?_
                | refine x_pick_t rfl rfl rfl rfl trivial ?_
                | refine x_pick_f rfl rfl rfl rfl trivial ?_
                | refine x_not rfl rfl rfl trivial ?_
                | refine x_beq rfl rfl rfl rfl trivial ?_
                | refine x_bne rfl rfl rfl rfl trivial ?_
                | refine x_extract rfl rfl rfl rfl trivial ?_
                | refine x_nilCheck rfl rfl rfl trivial ?_
                | refine x_fieldAddr rfl rfl rfl rfl trivial ?_
                | refine x_skip trivial rfl rfl rfl ?_
                | refine x_indexAddr1 rfl rfl rfl (by assumption) (by omega) (by omega) rfl trivial ?_
                | refine x_indexAddr rfl rfl rfl (by assumption) (by omega) (by omega) rfl trivial ?_
                | refine x_nil ?_
                | refine cw_seq ?_
                | refine nw_seq ?_
                | refine nw_block ?_
                | refine cw_block ?_
                | refine cw_skip ?_
                | refine cw_region ?_
                | refine cw_exit rfl ?_
                | refine cw_true rfl ?_
                | refine cw_false rfl ?_)
              refine x_load rfl rfl (hpmt (c73)) rfl trivial ?_
              repeat (first
                | refine x_move rfl rfl rfl trivial ?_
                | refine x_assign rfl rfl rfl trivial ?_
                | refine x_add rfl rfl rfl (wrap_i64 (by omega) (by omega)) rfl trivial ?_
                | refine x_sub_ rfl rfl rfl (wrap_i64 (by omega) (by omega)) rfl trivial ?_
                | refine x_sub_ rfl rfl rfl (wrap_u32 (by omega) (by omega)) rfl trivial ?_
                | refine x_add rfl rfl rfl (wrap_u32 (by omega) (by omega)) rfl trivial ?_
                | refine x_peqn rfl rfl rfl rfl trivial ?_
                | refine x_pnen rfl rfl rfl rfl trivial ?_
                | refine x_mul rfl rfl rfl (wrap_i64 (by omega) (by omega)) rfl trivial ?_
                | refine x_ibin rfl rfl rfl rfl rfl trivial ?_
                | refine x_neg_ rfl rfl (wrap_i64 (by omega) (by omega)) rfl trivial ?_
                | refine x_len rfl rfl (by assumption) rfl trivial ?_
                | refine x_pick_t rfl rfl rfl rfl trivial ?_
                | refine x_pick_f rfl rfl rfl rfl trivial ?_
                | refine x_not rfl rfl rfl trivial ?_
                | refine x_beq rfl rfl rfl rfl trivial ?_
                | refine x_bne rfl rfl rfl rfl trivial ?_
                | refine x_extract rfl rfl rfl rfl trivial ?_
                | refine x_nilCheck rfl rfl rfl trivial ?_
                | refine x_fieldAddr rfl rfl rfl rfl trivial ?_
                | refine x_skip trivial rfl rfl rfl ?_
                | refine x_indexAddr1 rfl rfl rfl (by assumption) (by omega) (by omega) rfl trivial ?_
                | refine x_indexAddr rfl rfl rfl (by assumption) (by omega) (by omega) rfl trivial ?_
                | refine x_nil ?_
                | refine cw_seq ?_
                | refine nw_seq ?_
                | refine nw_block ?_
                | refine cw_block ?_
                | refine cw_skip ?_
                | refine cw_region ?_
                | refine cw_exit rfl ?_
                | refine cw_true rfl ?_
                | refine cw_false rfl ?_)
              refine x_call rfl rfl rfl trivial (law_KeptBytes hL7 hB7) ?_
              rintro _ _ ⟨rfl, rfl⟩
              refine ⟨trivial, ?_⟩
              repeat (first
                | refine x_move rfl rfl rfl trivial ?_
                | refine x_assign rfl rfl rfl trivial ?_
                | refine x_add rfl rfl rfl (wrap_i64 (by omega) (by omega)) rfl trivial ?_
                | refine x_sub_ rfl rfl rfl (wrap_i64 (by omega) (by omega)) rfl trivial ?_
                | refine x_sub_ rfl rfl rfl (wrap_u32 (by omega) (by omega)) rfl trivial ?_
                | refine x_add rfl rfl rfl (wrap_u32 (by omega) (by omega)) rfl trivial ?_
                | refine x_peqn rfl rfl rfl rfl trivial ?_
                | refine x_pnen rfl rfl rfl rfl trivial ?_
                | refine x_mul rfl rfl rfl (wrap_i64 (by omega) (by omega)) rfl trivial ?_
                | refine x_ibin rfl rfl rfl rfl rfl trivial ?_
                | refine x_neg_ rfl rfl (wrap_i64 (by omega) (by omega)) rfl trivial ?_
                | refine x_len rfl rfl (by assumption) rfl trivial ?_
                | refine x_pick_t rfl rfl rfl rfl trivial ?_
                | refine x_pick_f rfl rfl rfl rfl trivial ?_
                | refine x_not rfl rfl rfl trivial ?_
                | refine x_beq rfl rfl rfl rfl trivial ?_
                | refine x_bne rfl rfl rfl rfl trivial ?_
                | refine x_extract rfl rfl rfl rfl trivial ?_
                | refine x_nilCheck rfl rfl rfl trivial ?_
                | refine x_fieldAddr rfl rfl rfl rfl trivial ?_
                | refine x_skip trivial rfl rfl rfl ?_
                | refine x_indexAddr1 rfl rfl rfl (by assumption) (by omega) (by omega) rfl trivial ?_
                | refine x_indexAddr rfl rfl rfl (by assumption) (by omega) (by omega) rfl trivial ?_
                | refine x_nil ?_
                | refine cw_seq ?_
                | refine nw_seq ?_
                | refine nw_block ?_
                | refine cw_block ?_
                | refine cw_skip ?_
                | refine cw_region ?_
                | refine cw_exit rfl ?_
                | refine cw_true rfl ?_
                | refine cw_false rfl ?_)
              refine x_call rfl rfl rfl trivial (law_OverBytes hL7.own (by omega)) ?_
              rintro _ H8 ⟨rfl, hk8⟩
              refine ⟨trivial, ?_⟩
              have hS8 := hS7.keep hk8 (fun x hx e => hx (by rw [e.1]; exact kv7))
              have hQ8 := hQ7.keep hk8 (fun x hx e => hx (by rw [e.1]; exact gv))
              have hX8 := hX7.keep hk8 (fun e => by have := hf6 (by omega); have := e.1; omega)
              have k08 : Keep Non H H8 := k07.old hk8 (fun x hx e => by have := hf6 (by omega); have := e.1; have := k05.size; omega)
              have c83 : cel H8 H3.size 3 = some vB := by rw [hX8.cel]; rfl
              have hB8 := hB.keepN k08
              repeat (first
                | refine x_move rfl rfl rfl trivial ?_
                | refine x_assign rfl rfl rfl trivial ?_
                | refine x_add rfl rfl rfl (wrap_i64 (by omega) (by omega)) rfl trivial ?_
                | refine x_sub_ rfl rfl rfl (wrap_i64 (by omega) (by omega)) rfl trivial ?_
                | refine x_sub_ rfl rfl rfl (wrap_u32 (by omega) (by omega)) rfl trivial ?_
                | refine x_add rfl rfl rfl (wrap_u32 (by omega) (by omega)) rfl trivial ?_
                | refine x_peqn rfl rfl rfl rfl trivial ?_
                | refine x_pnen rfl rfl rfl rfl trivial ?_
                | refine x_mul rfl rfl rfl (wrap_i64 (by omega) (by omega)) rfl trivial ?_
                | refine x_ibin rfl rfl rfl rfl rfl trivial ?_
                | refine x_neg_ rfl rfl (wrap_i64 (by omega) (by omega)) rfl trivial ?_
                | refine x_len rfl rfl (by assumption) rfl trivial ?_
                | refine x_pick_t rfl rfl rfl rfl trivial ?_
                | refine x_pick_f rfl rfl rfl rfl trivial ?_
                | refine x_not rfl rfl rfl trivial ?_
                | refine x_beq rfl rfl rfl rfl trivial ?_
                | refine x_bne rfl rfl rfl rfl trivial ?_
                | refine x_extract rfl rfl rfl rfl trivial ?_
                | refine x_nilCheck rfl rfl rfl trivial ?_
                | refine x_fieldAddr rfl rfl rfl rfl trivial ?_
                | refine x_skip trivial rfl rfl rfl ?_
                | refine x_indexAddr1 rfl rfl rfl (by assumption) (by omega) (by omega) rfl trivial ?_
                | refine x_indexAddr rfl rfl rfl (by assumption) (by omega) (by omega) rfl trivial ?_
                | refine x_nil ?_
                | refine cw_seq ?_
                | refine nw_seq ?_
                | refine nw_block ?_
                | refine cw_block ?_
                | refine cw_skip ?_
                | refine cw_region ?_
                | refine cw_exit rfl ?_
                | refine cw_true rfl ?_
                | refine cw_false rfl ?_)
              refine x_load rfl rfl (hpmt (c83)) rfl trivial ?_
              refine x_call rfl rfl rfl trivial (ref6_Put hQ8 hw hB8 (fun hne => ?_) (by omega) (by omega) (by omega) hback) ?_
              · have := hB.lt hne
                by_cases e : G (sb vB) = 0
                · exact e
                · have := hg _ e
                  omega
              rintro _ H9 ⟨rfl, hk9, G9, hE9, hQ9⟩
              refine ⟨trivial, ?_⟩
              have hQ9 : Sq G9 H9 c (putP p bs).2.2 := hQ9
              have hS9 := hS8.keep hk9 (hKG7.symm.keep hk9 mutQ_ne)
              have hX9 := hX8.keep hk9 (fun e => mutQ_ne _ e gL)
              have k09 := hg.keep k08 hk9 mutQ_ne
              repeat (first
                | refine x_move rfl rfl rfl trivial ?_
                | refine x_assign rfl rfl rfl trivial ?_
                | refine x_add rfl rfl rfl (wrap_i64 (by omega) (by omega)) rfl trivial ?_
                | refine x_sub_ rfl rfl rfl (wrap_i64 (by omega) (by omega)) rfl trivial ?_
                | refine x_sub_ rfl rfl rfl (wrap_u32 (by omega) (by omega)) rfl trivial ?_
                | refine x_add rfl rfl rfl (wrap_u32 (by omega) (by omega)) rfl trivial ?_
                | refine x_peqn rfl rfl rfl rfl trivial ?_
                | refine x_pnen rfl rfl rfl rfl trivial ?_
                | refine x_mul rfl rfl rfl (wrap_i64 (by omega) (by omega)) rfl trivial ?_
                | refine x_ibin rfl rfl rfl rfl rfl trivial ?_
                | refine x_neg_ rfl rfl (wrap_i64 (by omega) (by omega)) rfl trivial ?_
                | refine x_len rfl rfl (by assumption) rfl trivial ?_
                | refine x_pick_t rfl rfl rfl rfl trivial ?_
                | refine x_pick_f rfl rfl rfl rfl trivial ?_
                | refine x_not rfl rfl rfl trivial ?_
                | refine x_beq rfl rfl rfl rfl trivial ?_
                | refine x_bne rfl rfl rfl rfl trivial ?_
                | refine x_extract rfl rfl rfl rfl trivial ?_
                | refine x_nilCheck rfl rfl rfl trivial ?_
                | refine x_fieldAddr rfl rfl rfl rfl trivial ?_
                | refine x_skip trivial rfl rfl rfl ?_
                | refine x_indexAddr1 rfl rfl rfl (by assumption) (by omega) (by omega) rfl trivial ?_
                | refine x_indexAddr rfl rfl rfl (by assumption) (by omega) (by omega) rfl trivial ?_
                | refine x_nil ?_
                | refine cw_seq ?_
                | refine nw_seq ?_
                | refine nw_block ?_
                | refine cw_block ?_
                | refine cw_skip ?_
                | refine cw_region ?_
                | refine cw_exit rfl ?_
                | refine cw_true rfl ?_
                | refine cw_false rfl ?_)
              refine x_true 76 rfl (by simp) ?_
              repeat (first
                | refine x_move rfl rfl rfl trivial ?_
                | refine x_assign rfl rfl rfl trivial ?_
                | refine x_add rfl rfl rfl (wrap_i64 (by omega) (by omega)) rfl trivial ?_
                | refine x_sub_ rfl rfl rfl (wrap_i64 (by omega) (by omega)) rfl trivial ?_
                | refine x_sub_ rfl rfl rfl (wrap_u32 (by omega) (by omega)) rfl trivial ?_
                | refine x_add rfl rfl rfl (wrap_u32 (by omega) (by omega)) rfl trivial ?_
                | refine x_peqn rfl rfl rfl rfl trivial ?_
                | refine x_pnen rfl rfl rfl rfl trivial ?_
                | refine x_mul rfl rfl rfl (wrap_i64 (by omega) (by omega)) rfl trivial ?_
                | refine x_ibin rfl rfl rfl rfl rfl trivial ?_
                | refine x_neg_ rfl rfl (wrap_i64 (by omega) (by omega)) rfl trivial ?_
                | refine x_len rfl rfl (by assumption) rfl trivial ?_
                | refine x_pick_t rfl rfl rfl rfl trivial ?_
                | refine x_pick_f rfl rfl rfl rfl trivial ?_
                | refine x_not rfl rfl rfl trivial ?_
                | refine x_beq rfl rfl rfl rfl trivial ?_
                | refine x_bne rfl rfl rfl rfl trivial ?_
                | refine x_extract rfl rfl rfl rfl trivial ?_
                | refine x_nilCheck rfl rfl rfl trivial ?_
                | refine x_fieldAddr rfl rfl rfl rfl trivial ?_
                | refine x_skip trivial rfl rfl rfl ?_
                | refine x_indexAddr1 rfl rfl rfl (by assumption) (by omega) (by omega) rfl trivial ?_
                | refine x_indexAddr rfl rfl rfl (by assumption) (by omega) (by omega) rfl trivial ?_
                | refine x_nil ?_
                | refine cw_seq ?_
                | refine nw_seq ?_
                | refine nw_block ?_
                | refine cw_block ?_
                | refine cw_skip ?_
                | refine cw_region ?_
                | refine cw_exit rfl ?_
                | refine cw_true rfl ?_
                | refine cw_false rfl ?_)
              refine x_true 81 rfl (by simp) ?_
              repeat (first
                | refine x_move rfl rfl rfl trivial ?_
                | refine x_assign rfl rfl rfl trivial ?_
                | refine x_add rfl rfl rfl (wrap_i64 (by omega) (by omega)) rfl trivial ?_
                | refine x_sub_ rfl rfl rfl (wrap_i64 (by omega) (by omega)) rfl trivial ?_
                | refine x_sub_ rfl rfl rfl (wrap_u32 (by omega) (by omega)) rfl trivial ?_
                | refine x_add rfl rfl rfl (wrap_u32 (by omega) (by omega)) rfl trivial ?_
                | refine x_peqn rfl rfl rfl rfl trivial ?_
                | refine x_pnen rfl rfl rfl rfl trivial ?_
                | refine x_mul rfl rfl rfl (wrap_i64 (by omega) (by omega)) rfl trivial ?_
                | refine x_ibin rfl rfl rfl rfl rfl trivial ?_
                | refine x_neg_ rfl rfl (wrap_i64 (by omega) (by omega)) rfl trivial ?_
                | refine x_len rfl rfl (by assumption) rfl trivial ?_
                | refine x_pick_t rfl rfl rfl rfl trivial ?_
                | refine x_pick_f rfl rfl rfl rfl trivial ?_
                | refine x_not rfl rfl rfl trivial ?_
                | refine x_beq rfl rfl rfl rfl trivial ?_
                | refine x_bne rfl rfl rfl rfl trivial ?_
                | refine x_extract rfl rfl rfl rfl trivial ?_
                | refine x_nilCheck rfl rfl rfl trivial ?_
                | refine x_fieldAddr rfl rfl rfl rfl trivial ?_
                | refine x_skip trivial rfl rfl rfl ?_
                | refine x_indexAddr1 rfl rfl rfl (by assumption) (by omega) (by omega) rfl trivial ?_
                | refine x_indexAddr rfl rfl rfl (by assumption) (by omega) (by omega) rfl trivial ?_
                | refine x_nil ?_
                | refine cw_seq ?_
                | refine nw_seq ?_
                | refine nw_block ?_
                | refine cw_block ?_
                | refine cw_skip ?_
                | refine cw_region ?_
                | refine cw_exit rfl ?_
                | refine cw_true rfl ?_
                | refine cw_false rfl ?_)
              refine nw_meet (_, (putP p bs).2.2) (by repeat (first | exact True.intro | refine ⟨rfl, ?_⟩)) ⟨?_, putP_wf hw bs, ?_, ?_, putP_lens hln (by simp only at *; omega), k09, hX9, ?_, K7, G9, hS9, hQ9, hKG7.symm.ext hS8.kin hE9 |>.symm, hf7, hg.ext hE9 k08.size, kL7, ?_⟩
              · simp
              · have := putP_len p bs
                simp only at *
                omega
              · have := putP_back p bs
                simp only at *
                omega
              · have := hk6.size
                have := hk7.size
                have := hk8.size
                have := hk9.size
                omega
              · rw [hE9.old _ (by have := hX8.lt; exact this)]
                exact gL
            · repeat (first
                | refine x_move rfl rfl rfl trivial ?_
                | refine x_assign rfl rfl rfl trivial ?_
                | refine x_add rfl rfl rfl (wrap_i64 (by omega) (by omega)) rfl trivial ?_
                | refine x_sub_ rfl rfl rfl (wrap_i64 (by omega) (by omega)) rfl trivial ?_
                | refine x_sub_ rfl rfl rfl (wrap_u32 (by omega) (by omega)) rfl trivial ?_
                | refine x_add rfl rfl rfl (wrap_u32 (by omega) (by omega)) rfl trivial ?_
                | refine x_peqn rfl rfl rfl rfl trivial ?_
                | refine x_pnen rfl rfl rfl rfl trivial ?_
                | refine x_mul rfl rfl rfl (wrap_i64 (by omega) (by omega)) rfl trivial ?_
                | refine x_ibin rfl rfl rfl rfl rfl trivial ?_
                | refine x_neg_ rfl rfl (wrap_i64 (by omega) (by omega)) rfl trivial ?_
                | refine x_len rfl rfl (by assumption) rfl trivial ?_
                | refine x_pick_t rfl rfl rfl rfl trivial ?_
                | refine x_pick_f rfl rfl rfl rfl trivial ?_
                | refine x_not rfl rfl rfl trivial ?_
                | refine x_beq rfl rfl rfl rfl trivial ?_
                | refine x_bne rfl rfl rfl rfl trivial ?_
                | refine x_extract rfl rfl rfl rfl trivial ?_
                | refine x_nilCheck rfl rfl rfl trivial ?_
                | refine x_fieldAddr rfl rfl rfl rfl trivial ?_
                | refine x_skip trivial rfl rfl rfl ?_
                | refine x_indexAddr1 rfl rfl rfl (by assumption) (by omega) (by omega) rfl trivial ?_
                | refine x_indexAddr rfl rfl rfl (by assumption) (by omega) (by omega) rfl trivial ?_
                | refine x_nil ?_
                | refine cw_seq ?_
                | refine nw_seq ?_
                | refine nw_block ?_
                | refine cw_block ?_
                | refine cw_skip ?_
                | refine cw_region ?_
                | refine cw_exit rfl ?_
                | refine cw_true rfl ?_
                | refine cw_false rfl ?_)
              refine cw_cond rfl (fun hd2 => ?_) (fun hd2 => ?_) <;> (try simp at hd2)
              · repeat (first
                  | refine x_move rfl rfl rfl trivial ?_
                  | refine x_assign rfl rfl rfl trivial ?_
                  | refine x_add rfl rfl rfl (wrap_i64 (by omega) (by omega)) rfl trivial ?_
                  | refine x_sub_ rfl rfl rfl (wrap_i64 (by omega) (by omega)) rfl trivial ?_
                  | refine x_sub_ rfl rfl rfl (wrap_u32 (by omega) (by omega)) rfl trivial ?_
                  | refine x_add rfl rfl rfl (wrap_u32 (by omega) (by omega)) rfl trivial ?_
                  | refine x_peqn rfl rfl rfl rfl trivial ?_
                  | refine x_pnen rfl rfl rfl rfl trivial ?_
                  | refine x_mul rfl rfl rfl (wrap_i64 (by omega) (by omega)) rfl trivial ?_
                  | refine x_ibin rfl rfl rfl rfl rfl trivial ?_
                  | refine x_neg_ rfl rfl (wrap_i64 (by omega) (by omega)) rfl trivial ?_
                  | refine x_len rfl rfl (by assumption) rfl trivial ?_
                  | refine x_pick_t rfl rfl rfl rfl trivial ?_
                  | refine x_pick_f rfl rfl rfl rfl trivial ?_
                  | refine x_not rfl rfl rfl trivial ?_
                  | refine x_beq rfl rfl rfl rfl trivial ?_
                  | refine x_bne rfl rfl rfl rfl trivial ?_
                  | refine x_extract rfl rfl rfl rfl trivial ?_
                  | refine x_nilCheck rfl rfl rfl trivial ?_
                  | refine x_fieldAddr rfl rfl rfl rfl trivial ?_
                  | refine x_skip trivial rfl rfl rfl ?_
                  | refine x_indexAddr1 rfl rfl rfl (by assumption) (by omega) (by omega) rfl trivial ?_
                  | refine x_indexAddr rfl rfl rfl (by assumption) (by omega) (by omega) rfl trivial ?_
                  | refine x_nil ?_
                  | refine cw_seq ?_
                  | refine nw_seq ?_
                  | refine nw_block ?_
                  | refine cw_block ?_
                  | refine cw_skip ?_
                  | refine cw_region ?_
                  | refine cw_exit rfl ?_
                  | refine cw_true rfl ?_
                  | refine cw_false rfl ?_)
                have hr5 := Keep.refl (fun x => K x ≠ 0 ∨ G x ≠ 0) H5
                have nL : ¬ (K H3.size ≠ 0 ∨ G H3.size ≠ 0) := fun e => e.elim (fun h => h kL) (fun h => h gL)
                refine cw_held (fun _ => Keep (fun x => K x ≠ 0 ∨ G x ≠ 0) H5) ⟨[5, 11], [(2, 0), (4, 0), (8, 0), (10, 0)]⟩ (.op 0 (.op 1 (.op 2 (.op 3 (.op 4 (.op 6 (.op 7 (.op 8 (.op 9 (.op 10 (.op 5 (.op 11 (.op 12 (.op 13 (.nil))))))))))))))) panicOk_body mixed (by kernel_rfl) ?_
                repeat (first
                  | refine x_move rfl rfl rfl (okq_reg rfl rfl) ?_
                  | refine x_assign rfl rfl rfl (okq_reg rfl rfl) ?_
                  | refine x_add rfl rfl rfl (wrap_i64 (by omega) (by omega)) rfl (okq_reg rfl rfl) ?_
                  | refine x_sub_ rfl rfl rfl (wrap_i64 (by omega) (by omega)) rfl (okq_reg rfl rfl) ?_
                  | refine x_sub_ rfl rfl rfl (wrap_u32 (by omega) (by omega)) rfl (okq_reg rfl rfl) ?_
                  | refine x_mul rfl rfl rfl (wrap_i64 (by omega) (by omega)) rfl (okq_reg rfl rfl) ?_
                  | refine x_ibin rfl rfl rfl rfl rfl (okq_reg rfl rfl) ?_
                  | refine x_len rfl rfl (by assumption) rfl (okq_reg rfl rfl) ?_
                  | refine x_pick_t rfl rfl rfl rfl (okq_reg rfl rfl) ?_
                  | refine x_pick_f rfl rfl rfl rfl (okq_reg rfl rfl) ?_
                  | refine x_not rfl rfl rfl (okq_reg rfl rfl) ?_
                  | refine x_extract rfl rfl rfl rfl (okq_reg rfl rfl) ?_
                  | refine x_nilCheck rfl rfl rfl (okq_reg rfl rfl) ?_
                  | refine x_fieldAddr rfl rfl rfl rfl (okq_reg rfl rfl) ?_
                  | refine x_skip (okq_reg rfl rfl) rfl rfl rfl ?_
                  | refine x_indexAddr1 rfl rfl rfl (by assumption) (by omega) (by omega) rfl (okq_reg rfl rfl) ?_
                  | refine x_indexAddr rfl rfl rfl (by assumption) (by omega) (by omega) rfl (okq_reg rfl rfl) ?_
                  | refine x_nil ?_
                  | refine cw_seq ?_
                  | refine nw_seq ?_
                  | refine nw_block ?_
                  | refine cw_block ?_
                  | refine cw_skip ?_
                  | refine cw_region ?_
                  | refine cw_exit rfl ?_
                  | refine cw_true rfl ?_
                  | refine cw_false rfl ?_)
                refine x_load rfl rfl (hpmk rfl (fun _ hk => hk.cel c52 nL)) rfl (okq_load rfl rfl (by assumption)) ?_
                repeat (first
                  | refine x_move rfl rfl rfl (okq_reg rfl rfl) ?_
                  | refine x_assign rfl rfl rfl (okq_reg rfl rfl) ?_
                  | refine x_add rfl rfl rfl (wrap_i64 (by omega) (by omega)) rfl (okq_reg rfl rfl) ?_
                  | refine x_sub_ rfl rfl rfl (wrap_i64 (by omega) (by omega)) rfl (okq_reg rfl rfl) ?_
                  | refine x_sub_ rfl rfl rfl (wrap_u32 (by omega) (by omega)) rfl (okq_reg rfl rfl) ?_
                  | refine x_mul rfl rfl rfl (wrap_i64 (by omega) (by omega)) rfl (okq_reg rfl rfl) ?_
                  | refine x_ibin rfl rfl rfl rfl rfl (okq_reg rfl rfl) ?_
                  | refine x_len rfl rfl (by assumption) rfl (okq_reg rfl rfl) ?_
                  | refine x_pick_t rfl rfl rfl rfl (okq_reg rfl rfl) ?_
                  | refine x_pick_f rfl rfl rfl rfl (okq_reg rfl rfl) ?_
                  | refine x_not rfl rfl rfl (okq_reg rfl rfl) ?_
                  | refine x_extract rfl rfl rfl rfl (okq_reg rfl rfl) ?_
                  | refine x_nilCheck rfl rfl rfl (okq_reg rfl rfl) ?_
                  | refine x_fieldAddr rfl rfl rfl rfl (okq_reg rfl rfl) ?_
                  | refine x_skip (okq_reg rfl rfl) rfl rfl rfl ?_
                  | refine x_indexAddr1 rfl rfl rfl (by assumption) (by omega) (by omega) rfl (okq_reg rfl rfl) ?_
                  | refine x_indexAddr rfl rfl rfl (by assumption) (by omega) (by omega) rfl (okq_reg rfl rfl) ?_
                  | refine x_nil ?_
                  | refine cw_seq ?_
                  | refine nw_seq ?_
                  | refine nw_block ?_
                  | refine cw_block ?_
                  | refine cw_skip ?_
                  | refine cw_region ?_
                  | refine cw_exit rfl ?_
                  | refine cw_true rfl ?_
                  | refine cw_false rfl ?_)
                refine x_load rfl rfl (hpmk rfl (fun _ hk => hk.cel c51 nL)) rfl (okq_load rfl rfl (by assumption)) ?_
                repeat (first
                  | refine x_move rfl rfl rfl (okq_reg rfl rfl) ?_
                  | refine x_assign rfl rfl rfl (okq_reg rfl rfl) ?_
                  | refine x_add rfl rfl rfl (wrap_i64 (by omega) (by omega)) rfl (okq_reg rfl rfl) ?_
                  | refine x_sub_ rfl rfl rfl (wrap_i64 (by omega) (by omega)) rfl (okq_reg rfl rfl) ?_
                  | refine x_sub_ rfl rfl rfl (wrap_u32 (by omega) (by omega)) rfl (okq_reg rfl rfl) ?_
                  | refine x_mul rfl rfl rfl (wrap_i64 (by omega) (by omega)) rfl (okq_reg rfl rfl) ?_
                  | refine x_ibin rfl rfl rfl rfl rfl (okq_reg rfl rfl) ?_
                  | refine x_len rfl rfl (by assumption) rfl (okq_reg rfl rfl) ?_
                  | refine x_pick_t rfl rfl rfl rfl (okq_reg rfl rfl) ?_
                  | refine x_pick_f rfl rfl rfl rfl (okq_reg rfl rfl) ?_
                  | refine x_not rfl rfl rfl (okq_reg rfl rfl) ?_
                  | refine x_extract rfl rfl rfl rfl (okq_reg rfl rfl) ?_
                  | refine x_nilCheck rfl rfl rfl (okq_reg rfl rfl) ?_
                  | refine x_fieldAddr rfl rfl rfl rfl (okq_reg rfl rfl) ?_
                  | refine x_skip (okq_reg rfl rfl) rfl rfl rfl ?_
                  | refine x_indexAddr1 rfl rfl rfl (by assumption) (by omega) (by omega) rfl (okq_reg rfl rfl) ?_
                  | refine x_indexAddr rfl rfl rfl (by assumption) (by omega) (by omega) rfl (okq_reg rfl rfl) ?_
                  | refine x_nil ?_
                  | refine cw_seq ?_
                  | refine nw_seq ?_
                  | refine nw_block ?_
                  | refine cw_block ?_
                  | refine cw_skip ?_
                  | refine cw_region ?_
                  | refine cw_exit rfl ?_
                  | refine cw_true rfl ?_
                  | refine cw_false rfl ?_)
                refine x_load rfl rfl (hpmk rfl (fun _ hk => hk.cel c52 nL)) rfl (okq_load rfl rfl (by assumption)) ?_
                repeat (first
                  | refine x_move rfl rfl rfl (okq_reg rfl rfl) ?_
                  | refine x_assign rfl rfl rfl (okq_reg rfl rfl) ?_
                  | refine x_add rfl rfl rfl (wrap_i64 (by omega) (by omega)) rfl (okq_reg rfl rfl) ?_
                  | refine x_sub_ rfl rfl rfl (wrap_i64 (by omega) (by omega)) rfl (okq_reg rfl rfl) ?_
                  | refine x_sub_ rfl rfl rfl (wrap_u32 (by omega) (by omega)) rfl (okq_reg rfl rfl) ?_
                  | refine x_mul rfl rfl rfl (wrap_i64 (by omega) (by omega)) rfl (okq_reg rfl rfl) ?_
                  | refine x_ibin rfl rfl rfl rfl rfl (okq_reg rfl rfl) ?_
                  | refine x_len rfl rfl (by assumption) rfl (okq_reg rfl rfl) ?_
                  | refine x_pick_t rfl rfl rfl rfl (okq_reg rfl rfl) ?_
                  | refine x_pick_f rfl rfl rfl rfl (okq_reg rfl rfl) ?_
                  | refine x_not rfl rfl rfl (okq_reg rfl rfl) ?_
                  | refine x_extract rfl rfl rfl rfl (okq_reg rfl rfl) ?_
                  | refine x_nilCheck rfl rfl rfl (okq_reg rfl rfl) ?_
                  | refine x_fieldAddr rfl rfl rfl rfl (okq_reg rfl rfl) ?_
                  | refine x_skip (okq_reg rfl rfl) rfl rfl rfl ?_
                  | refine x_indexAddr1 rfl rfl rfl (by assumption) (by omega) (by omega) rfl (okq_reg rfl rfl) ?_
                  | refine x_indexAddr rfl rfl rfl (by assumption) (by omega) (by omega) rfl (okq_reg rfl rfl) ?_
                  | refine x_nil ?_
                  | refine cw_seq ?_
                  | refine nw_seq ?_
                  | refine nw_block ?_
                  | refine cw_block ?_
                  | refine cw_skip ?_
                  | refine cw_region ?_
                  | refine cw_exit rfl ?_
                  | refine cw_true rfl ?_
                  | refine cw_false rfl ?_)
                refine x_load rfl rfl (hpmk rfl (fun _ hk => hk.cel c51 nL)) rfl (okq_load rfl rfl (by assumption)) ?_
                repeat (first
                  | refine x_move rfl rfl rfl (okq_reg rfl rfl) ?_
                  | refine x_assign rfl rfl rfl (okq_reg rfl rfl) ?_
                  | refine x_add rfl rfl rfl (wrap_i64 (by omega) (by omega)) rfl (okq_reg rfl rfl) ?_
                  | refine x_sub_ rfl rfl rfl (wrap_i64 (by omega) (by omega)) rfl (okq_reg rfl rfl) ?_
                  | refine x_sub_ rfl rfl rfl (wrap_u32 (by omega) (by omega)) rfl (okq_reg rfl rfl) ?_
                  | refine x_mul rfl rfl rfl (wrap_i64 (by omega) (by omega)) rfl (okq_reg rfl rfl) ?_
                  | refine x_ibin rfl rfl rfl rfl rfl (okq_reg rfl rfl) ?_
                  | refine x_len rfl rfl (by assumption) rfl (okq_reg rfl rfl) ?_
                  | refine x_pick_t rfl rfl rfl rfl (okq_reg rfl rfl) ?_
                  | refine x_pick_f rfl rfl rfl rfl (okq_reg rfl rfl) ?_
                  | refine x_not rfl rfl rfl (okq_reg rfl rfl) ?_
                  | refine x_extract rfl rfl rfl rfl (okq_reg rfl rfl) ?_
                  | refine x_nilCheck rfl rfl rfl (okq_reg rfl rfl) ?_
                  | refine x_fieldAddr rfl rfl rfl rfl (okq_reg rfl rfl) ?_
                  | refine x_skip (okq_reg rfl rfl) rfl rfl rfl ?_
                  | refine x_indexAddr1 rfl rfl rfl (by assumption) (by omega) (by omega) rfl (okq_reg rfl rfl) ?_
                  | refine x_indexAddr rfl rfl rfl (by assumption) (by omega) (by omega) rfl (okq_reg rfl rfl) ?_
                  | refine x_nil ?_
                  | refine cw_seq ?_
                  | refine nw_seq ?_
                  | refine nw_block ?_
                  | refine cw_block ?_
                  | refine cw_skip ?_
                  | refine cw_region ?_
                  | refine cw_exit rfl ?_
                  | refine cw_true rfl ?_
                  | refine cw_false rfl ?_)
                refine x_call rfl rfl rfl ⟨rfl, rfl⟩ (span_Cut hS5 hw hh (by omega)) ?_
                rintro _ H6 ⟨rfl, hk6, hS6⟩
                refine ⟨okm_keep hk6 (fun x _ e => .inl (mutP_ne _ e)), ?_⟩
                have hQ6 := hQ5.keep hk6 (hKG.keep hk6 mutP_ne)
                have hX6 := hX5.keep hk6 (fun e => mutP_ne _ e kL)
                have k06 := hf.keep k05 hk6 mutP_ne
                repeat (first
                  | refine x_move rfl rfl rfl (okq_reg rfl rfl) ?_
                  | refine x_assign rfl rfl rfl (okq_reg rfl rfl) ?_
                  | refine x_add rfl rfl rfl (wrap_i64 (by omega) (by omega)) rfl (okq_reg rfl rfl) ?_
                  | refine x_sub_ rfl rfl rfl (wrap_i64 (by omega) (by omega)) rfl (okq_reg rfl rfl) ?_
                  | refine x_sub_ rfl rfl rfl (wrap_u32 (by omega) (by omega)) rfl (okq_reg rfl rfl) ?_
                  | refine x_mul rfl rfl rfl (wrap_i64 (by omega) (by omega)) rfl (okq_reg rfl rfl) ?_
                  | refine x_ibin rfl rfl rfl rfl rfl (okq_reg rfl rfl) ?_
                  | refine x_len rfl rfl (by assumption) rfl (okq_reg rfl rfl) ?_
                  | refine x_pick_t rfl rfl rfl rfl (okq_reg rfl rfl) ?_
                  | refine x_pick_f rfl rfl rfl rfl (okq_reg rfl rfl) ?_
                  | refine x_not rfl rfl rfl (okq_reg rfl rfl) ?_
                  | refine x_extract rfl rfl rfl rfl (okq_reg rfl rfl) ?_
                  | refine x_nilCheck rfl rfl rfl (okq_reg rfl rfl) ?_
                  | refine x_fieldAddr rfl rfl rfl rfl (okq_reg rfl rfl) ?_
                  | refine x_skip (okq_reg rfl rfl) rfl rfl rfl ?_
                  | refine x_indexAddr1 rfl rfl rfl (by assumption) (by omega) (by omega) rfl (okq_reg rfl rfl) ?_
                  | refine x_indexAddr rfl rfl rfl (by assumption) (by omega) (by omega) rfl (okq_reg rfl rfl) ?_
                  | refine x_nil ?_
                  | refine cw_seq ?_
                  | refine nw_seq ?_
                  | refine nw_block ?_
                  | refine cw_block ?_
                  | refine cw_skip ?_
                  | refine cw_region ?_
                  | refine cw_exit rfl ?_
                  | refine cw_true rfl ?_
                  | refine cw_false rfl ?_)
                refine x_call rfl rfl rfl ⟨rfl, rfl⟩ (ref6_Cut hQ6 hw hh (by omega)) ?_
                rintro _ H7 ⟨rfl, hk7, G7, hE7, hQ7⟩
                refine ⟨okm_keep hk7 (fun x _ e => .inr (mutQ_ne _ e)), ?_⟩
                have hS7 := hS6.keep hk7 (hKG.symm.keep hk7 mutQ_ne)
                have hX7 := hX6.keep hk7 (fun e => mutQ_ne _ e gL)
                have k07 := hg.keep k06 hk7 mutQ_ne
                repeat (first
                  | refine x_move rfl rfl rfl (okq_reg rfl rfl) ?_
                  | refine x_assign rfl rfl rfl (okq_reg rfl rfl) ?_
                  | refine x_add rfl rfl rfl (wrap_i64 (by omega) (by omega)) rfl (okq_reg rfl rfl) ?_
                  | refine x_sub_ rfl rfl rfl (wrap_i64 (by omega) (by omega)) rfl (okq_reg rfl rfl) ?_
                  | refine x_sub_ rfl rfl rfl (wrap_u32 (by omega) (by omega)) rfl (okq_reg rfl rfl) ?_
                  | refine x_mul rfl rfl rfl (wrap_i64 (by omega) (by omega)) rfl (okq_reg rfl rfl) ?_
                  | refine x_ibin rfl rfl rfl rfl rfl (okq_reg rfl rfl) ?_
                  | refine x_len rfl rfl (by assumption) rfl (okq_reg rfl rfl) ?_
                  | refine x_pick_t rfl rfl rfl rfl (okq_reg rfl rfl) ?_
                  | refine x_pick_f rfl rfl rfl rfl (okq_reg rfl rfl) ?_
                  | refine x_not rfl rfl rfl (okq_reg rfl rfl) ?_
                  | refine x_extract rfl rfl rfl rfl (okq_reg rfl rfl) ?_
                  | refine x_nilCheck rfl rfl rfl (okq_reg rfl rfl) ?_
                  | refine x_fieldAddr rfl rfl rfl rfl (okq_reg rfl rfl) ?_
                  | refine x_skip (okq_reg rfl rfl) rfl rfl rfl ?_
                  | refine x_indexAddr1 rfl rfl rfl (by assumption) (by omega) (by omega) rfl (okq_reg rfl rfl) ?_
                  | refine x_indexAddr rfl rfl rfl (by assumption) (by omega) (by omega) rfl (okq_reg rfl rfl) ?_
                  | refine x_nil ?_
                  | refine cw_seq ?_
                  | refine nw_seq ?_
                  | refine nw_block ?_
                  | refine cw_block ?_
                  | refine cw_skip ?_
                  | refine cw_region ?_
                  | refine cw_exit rfl ?_
                  | refine cw_true rfl ?_
                  | refine cw_false rfl ?_)
                refine nw_meet (_, (cutP p h n).2) (by repeat (first | exact True.intro | refine ⟨rfl, ?_⟩)) ⟨?_, cutP_wf hw h n, ?_, ?_, cutP_lens hln, k07, hX7, ?_, K, G7, hS7, hQ7, (hKG.symm.ext hS6.kin hE7).symm, hf, hg.ext hE7 k06.size, kL, ?_⟩
                · simp
                · have := cutP_len p h n
                  simp only at *
                  omega
                · have := cutP_back p h n
                  simp only at *
                  omega
                · have := hk6.size
                  have := hk7.size
                  omega
                · rw [hE7.old _ hX6.lt]
                  exact gL
              · repeat (first
                  | refine x_move rfl rfl rfl trivial ?_
                  | refine x_assign rfl rfl rfl trivial ?_
                  | refine x_add rfl rfl rfl (wrap_i64 (by omega) (by omega)) rfl trivial ?_
                  | refine x_sub_ rfl rfl rfl (wrap_i64 (by omega) (by omega)) rfl trivial ?_
                  | refine x_sub_ rfl rfl rfl (wrap_u32 (by omega) (by omega)) rfl trivial ?_
                  | refine x_add rfl rfl rfl (wrap_u32 (by omega) (by omega)) rfl trivial ?_
                  | refine x_peqn rfl rfl rfl rfl trivial ?_
                  | refine x_pnen rfl rfl rfl rfl trivial ?_
                  | refine x_mul rfl rfl rfl (wrap_i64 (by omega) (by omega)) rfl trivial ?_
                  | refine x_ibin rfl rfl rfl rfl rfl trivial ?_
                  | refine x_neg_ rfl rfl (wrap_i64 (by omega) (by omega)) rfl trivial ?_
                  | refine x_len rfl rfl (by assumption) rfl trivial ?_
                  | refine x_pick_t rfl rfl rfl rfl trivial ?_
                  | refine x_pick_f rfl rfl rfl rfl trivial ?_
                  | refine x_not rfl rfl rfl trivial ?_
                  | refine x_beq rfl rfl rfl rfl trivial ?_
                  | refine x_bne rfl rfl rfl rfl trivial ?_
                  | refine x_extract rfl rfl rfl rfl trivial ?_
                  | refine x_nilCheck rfl rfl rfl trivial ?_
                  | refine x_fieldAddr rfl rfl rfl rfl trivial ?_
                  | refine x_skip trivial rfl rfl rfl ?_
                  | refine x_indexAddr1 rfl rfl rfl (by assumption) (by omega) (by omega) rfl trivial ?_
                  | refine x_indexAddr rfl rfl rfl (by assumption) (by omega) (by omega) rfl trivial ?_
                  | refine x_nil ?_
                  | refine cw_seq ?_
                  | refine nw_seq ?_
                  | refine nw_block ?_
                  | refine cw_block ?_
                  | refine cw_skip ?_
                  | refine cw_region ?_
                  | refine cw_exit rfl ?_
                  | refine cw_true rfl ?_
                  | refine cw_false rfl ?_)
                refine cw_cond rfl (fun hd3 => ?_) (fun hd3 => ?_) <;> (try simp at hd3)
                · repeat (first
                    | refine x_move rfl rfl rfl trivial ?_
                    | refine x_assign rfl rfl rfl trivial ?_
                    | refine x_add rfl rfl rfl (wrap_i64 (by omega) (by omega)) rfl trivial ?_
                    | refine x_sub_ rfl rfl rfl (wrap_i64 (by omega) (by omega)) rfl trivial ?_
                    | refine x_sub_ rfl rfl rfl (wrap_u32 (by omega) (by omega)) rfl trivial ?_
                    | refine x_add rfl rfl rfl (wrap_u32 (by omega) (by omega)) rfl trivial ?_
                    | refine x_peqn rfl rfl rfl rfl trivial ?_
                    | refine x_pnen rfl rfl rfl rfl trivial ?_
                    | refine x_mul rfl rfl rfl (wrap_i64 (by omega) (by omega)) rfl trivial ?_
                    | refine x_ibin rfl rfl rfl rfl rfl trivial ?_
                    | refine x_neg_ rfl rfl (wrap_i64 (by omega) (by omega)) rfl trivial ?_
                    | refine x_len rfl rfl (by assumption) rfl trivial ?_
                    | refine x_pick_t rfl rfl rfl rfl trivial ?_
                    | refine x_pick_f rfl rfl rfl rfl trivial ?_
                    | refine x_not rfl rfl rfl trivial ?_
                    | refine x_beq rfl rfl rfl rfl trivial ?_
                    | refine x_bne rfl rfl rfl rfl trivial ?_
                    | refine x_extract rfl rfl rfl rfl trivial ?_
                    | refine x_nilCheck rfl rfl rfl trivial ?_
                    | refine x_fieldAddr rfl rfl rfl rfl trivial ?_
                    | refine x_skip trivial rfl rfl rfl ?_
                    | refine x_indexAddr1 rfl rfl rfl (by assumption) (by omega) (by omega) rfl trivial ?_
                    | refine x_indexAddr rfl rfl rfl (by assumption) (by omega) (by omega) rfl trivial ?_
                    | refine x_nil ?_
                    | refine cw_seq ?_
                    | refine nw_seq ?_
                    | refine nw_block ?_
                    | refine cw_block ?_
                    | refine cw_skip ?_
                    | refine cw_region ?_
                    | refine cw_exit rfl ?_
                    | refine cw_true rfl ?_
                    | refine cw_false rfl ?_)
                  have hr5 := Keep.refl (fun x => K x ≠ 0 ∨ G x ≠ 0 ∨ H5.size ≤ x) H5
                  have nL : ¬ (K H3.size ≠ 0 ∨ G H3.size ≠ 0 ∨ H5.size ≤ H3.size) := fun e => e.elim (fun h => h kL) (fun h => h.elim (fun h => h gL) (fun h => by omega))
                  refine cw_held (fun _ => Keep (fun x => K x ≠ 0 ∨ G x ≠ 0 ∨ H5.size ≤ x) H5) ⟨[3, 7], [(2, 0), (6, 0)]⟩ (.op 0 (.op 1 (.op 2 (.op 4 (.op 5 (.op 6 (.op 3 (.op 7 (.op 8 (.op 9 (.nil))))))))))) panicOk_body mixed (by kernel_rfl) ?_
                  repeat (first
                    | refine x_move rfl rfl rfl (okq_reg rfl rfl) ?_
                    | refine x_assign rfl rfl rfl (okq_reg rfl rfl) ?_
                    | refine x_add rfl rfl rfl (wrap_i64 (by omega) (by omega)) rfl (okq_reg rfl rfl) ?_
                    | refine x_sub_ rfl rfl rfl (wrap_i64 (by omega) (by omega)) rfl (okq_reg rfl rfl) ?_
                    | refine x_sub_ rfl rfl rfl (wrap_u32 (by omega) (by omega)) rfl (okq_reg rfl rfl) ?_
                    | refine x_mul rfl rfl rfl (wrap_i64 (by omega) (by omega)) rfl (okq_reg rfl rfl) ?_
                    | refine x_ibin rfl rfl rfl rfl rfl (okq_reg rfl rfl) ?_
                    | refine x_len rfl rfl (by assumption) rfl (okq_reg rfl rfl) ?_
                    | refine x_pick_t rfl rfl rfl rfl (okq_reg rfl rfl) ?_
                    | refine x_pick_f rfl rfl rfl rfl (okq_reg rfl rfl) ?_
                    | refine x_not rfl rfl rfl (okq_reg rfl rfl) ?_
                    | refine x_extract rfl rfl rfl rfl (okq_reg rfl rfl) ?_
                    | refine x_nilCheck rfl rfl rfl (okq_reg rfl rfl) ?_
                    | refine x_fieldAddr rfl rfl rfl rfl (okq_reg rfl rfl) ?_
                    | refine x_skip (okq_reg rfl rfl) rfl rfl rfl ?_
                    | refine x_indexAddr1 rfl rfl rfl (by assumption) (by omega) (by omega) rfl (okq_reg rfl rfl) ?_
                    | refine x_indexAddr rfl rfl rfl (by assumption) (by omega) (by omega) rfl (okq_reg rfl rfl) ?_
                    | refine x_nil ?_
                    | refine cw_seq ?_
                    | refine nw_seq ?_
                    | refine nw_block ?_
                    | refine cw_block ?_
                    | refine cw_skip ?_
                    | refine cw_region ?_
                    | refine cw_exit rfl ?_
                    | refine cw_true rfl ?_
                    | refine cw_false rfl ?_)
                  refine x_load rfl rfl (hpmk rfl (fun _ hk => hk.cel c52 nL)) rfl (okq_load rfl rfl (by assumption)) ?_
                  repeat (first
                    | refine x_move rfl rfl rfl (okq_reg rfl rfl) ?_
                    | refine x_assign rfl rfl rfl (okq_reg rfl rfl) ?_
                    | refine x_add rfl rfl rfl (wrap_i64 (by omega) (by omega)) rfl (okq_reg rfl rfl) ?_
                    | refine x_sub_ rfl rfl rfl (wrap_i64 (by omega) (by omega)) rfl (okq_reg rfl rfl) ?_
                    | refine x_sub_ rfl rfl rfl (wrap_u32 (by omega) (by omega)) rfl (okq_reg rfl rfl) ?_
                    | refine x_mul rfl rfl rfl (wrap_i64 (by omega) (by omega)) rfl (okq_reg rfl rfl) ?_
                    | refine x_ibin rfl rfl rfl rfl rfl (okq_reg rfl rfl) ?_
                    | refine x_len rfl rfl (by assumption) rfl (okq_reg rfl rfl) ?_
                    | refine x_pick_t rfl rfl rfl rfl (okq_reg rfl rfl) ?_
                    | refine x_pick_f rfl rfl rfl rfl (okq_reg rfl rfl) ?_
                    | refine x_not rfl rfl rfl (okq_reg rfl rfl) ?_
                    | refine x_extract rfl rfl rfl rfl (okq_reg rfl rfl) ?_
                    | refine x_nilCheck rfl rfl rfl (okq_reg rfl rfl) ?_
                    | refine x_fieldAddr rfl rfl rfl rfl (okq_reg rfl rfl) ?_
                    | refine x_skip (okq_reg rfl rfl) rfl rfl rfl ?_
                    | refine x_indexAddr1 rfl rfl rfl (by assumption) (by omega) (by omega) rfl (okq_reg rfl rfl) ?_
                    | refine x_indexAddr rfl rfl rfl (by assumption) (by omega) (by omega) rfl (okq_reg rfl rfl) ?_
                    | refine x_nil ?_
                    | refine cw_seq ?_
                    | refine nw_seq ?_
                    | refine nw_block ?_
                    | refine cw_block ?_
                    | refine cw_skip ?_
                    | refine cw_region ?_
                    | refine cw_exit rfl ?_
                    | refine cw_true rfl ?_
                    | refine cw_false rfl ?_)
                  refine x_load rfl rfl (hpmk rfl (fun _ hk => hk.cel c52 nL)) rfl (okq_load rfl rfl (by assumption)) ?_
                  repeat (first
                    | refine x_move rfl rfl rfl (okq_reg rfl rfl) ?_
                    | refine x_assign rfl rfl rfl (okq_reg rfl rfl) ?_
                    | refine x_add rfl rfl rfl (wrap_i64 (by omega) (by omega)) rfl (okq_reg rfl rfl) ?_
                    | refine x_sub_ rfl rfl rfl (wrap_i64 (by omega) (by omega)) rfl (okq_reg rfl rfl) ?_
                    | refine x_sub_ rfl rfl rfl (wrap_u32 (by omega) (by omega)) rfl (okq_reg rfl rfl) ?_
                    | refine x_mul rfl rfl rfl (wrap_i64 (by omega) (by omega)) rfl (okq_reg rfl rfl) ?_
                    | refine x_ibin rfl rfl rfl rfl rfl (okq_reg rfl rfl) ?_
                    | refine x_len rfl rfl (by assumption) rfl (okq_reg rfl rfl) ?_
                    | refine x_pick_t rfl rfl rfl rfl (okq_reg rfl rfl) ?_
                    | refine x_pick_f rfl rfl rfl rfl (okq_reg rfl rfl) ?_
                    | refine x_not rfl rfl rfl (okq_reg rfl rfl) ?_
                    | refine x_extract rfl rfl rfl rfl (okq_reg rfl rfl) ?_
                    | refine x_nilCheck rfl rfl rfl (okq_reg rfl rfl) ?_
                    | refine x_fieldAddr rfl rfl rfl rfl (okq_reg rfl rfl) ?_
                    | refine x_skip (okq_reg rfl rfl) rfl rfl rfl ?_
                    | refine x_indexAddr1 rfl rfl rfl (by assumption) (by omega) (by omega) rfl (okq_reg rfl rfl) ?_
                    | refine x_indexAddr rfl rfl rfl (by assumption) (by omega) (by omega) rfl (okq_reg rfl rfl) ?_
                    | refine x_nil ?_
                    | refine cw_seq ?_
                    | refine nw_seq ?_
                    | refine nw_block ?_
                    | refine cw_block ?_
                    | refine cw_skip ?_
                    | refine cw_region ?_
                    | refine cw_exit rfl ?_
                    | refine cw_true rfl ?_
                    | refine cw_false rfl ?_)
                  refine x_call rfl rfl rfl ⟨rfl, rfl⟩ (span_Drop hS5 hw hh (by omega) (by omega)) ?_
                  rintro _ H6 ⟨rfl, hk6, K6, hE6, hS6⟩
                  refine ⟨okm_keep hk6 (fun x _ e => .inl (mutP_ne _ e)), ?_⟩
                  have hQ6 := hQ5.keep hk6 (hKG.keep hk6 mutP_ne)
                  have hX6 := hX5.keep hk6 (fun e => mutP_ne _ e kL)
                  have k06 := hf.keep k05 hk6 mutP_ne
                  have hKG6 := hKG.ext hQ5.kin hE6
                  repeat (first
                    | refine x_move rfl rfl rfl (okq_reg rfl rfl) ?_
                    | refine x_assign rfl rfl rfl (okq_reg rfl rfl) ?_
                    | refine x_add rfl rfl rfl (wrap_i64 (by omega) (by omega)) rfl (okq_reg rfl rfl) ?_
                    | refine x_sub_ rfl rfl rfl (wrap_i64 (by omega) (by omega)) rfl (okq_reg rfl rfl) ?_
                    | refine x_sub_ rfl rfl rfl (wrap_u32 (by omega) (by omega)) rfl (okq_reg rfl rfl) ?_
                    | refine x_mul rfl rfl rfl (wrap_i64 (by omega) (by omega)) rfl (okq_reg rfl rfl) ?_
                    | refine x_ibin rfl rfl rfl rfl rfl (okq_reg rfl rfl) ?_
                    | refine x_len rfl rfl (by assumption) rfl (okq_reg rfl rfl) ?_
                    | refine x_pick_t rfl rfl rfl rfl (okq_reg rfl rfl) ?_
                    | refine x_pick_f rfl rfl rfl rfl (okq_reg rfl rfl) ?_
                    | refine x_not rfl rfl rfl (okq_reg rfl rfl) ?_
                    | refine x_extract rfl rfl rfl rfl (okq_reg rfl rfl) ?_
                    | refine x_nilCheck rfl rfl rfl (okq_reg rfl rfl) ?_
                    | refine x_fieldAddr rfl rfl rfl rfl (okq_reg rfl rfl) ?_
                    | refine x_skip (okq_reg rfl rfl) rfl rfl rfl ?_
                    | refine x_indexAddr1 rfl rfl rfl (by assumption) (by omega) (by omega) rfl (okq_reg rfl rfl) ?_
                    | refine x_indexAddr rfl rfl rfl (by assumption) (by omega) (by omega) rfl (okq_reg rfl rfl) ?_
                    | refine x_nil ?_
                    | refine cw_seq ?_
                    | refine nw_seq ?_
                    | refine nw_block ?_
                    | refine cw_block ?_
                    | refine cw_skip ?_
                    | refine cw_region ?_
                    | refine cw_exit rfl ?_
                    | refine cw_true rfl ?_
                    | refine cw_false rfl ?_)
                  refine x_call rfl rfl rfl ⟨rfl, rfl⟩ (ref6_Drop hQ6 hw hh (by omega) (by omega)) ?_
                  rintro _ H7 ⟨rfl, hk7, G7, hE7, hQ7⟩
                  refine ⟨okm_keep hk7 (fun x _ e => .inr (.inl (mutQ_ne _ e))), ?_⟩
                  have hS7 := hS6.keep hk7 (hKG6.symm.keep hk7 mutQ_ne)
                  have hX7 := hX6.keep hk7 (fun e => mutQ_ne _ e gL)
                  have k07 := hg.keep k06 hk7 mutQ_ne
                  repeat (first
                    | refine x_move rfl rfl rfl (okq_reg rfl rfl) ?_
                    | refine x_assign rfl rfl rfl (okq_reg rfl rfl) ?_
                    | refine x_add rfl rfl rfl (wrap_i64 (by omega) (by omega)) rfl (okq_reg rfl rfl) ?_
                    | refine x_sub_ rfl rfl rfl (wrap_i64 (by omega) (by omega)) rfl (okq_reg rfl rfl) ?_
                    | refine x_sub_ rfl rfl rfl (wrap_u32 (by omega) (by omega)) rfl (okq_reg rfl rfl) ?_
                    | refine x_mul rfl rfl rfl (wrap_i64 (by omega) (by omega)) rfl (okq_reg rfl rfl) ?_
                    | refine x_ibin rfl rfl rfl rfl rfl (okq_reg rfl rfl) ?_
                    | refine x_len rfl rfl (by assumption) rfl (okq_reg rfl rfl) ?_
                    | refine x_pick_t rfl rfl rfl rfl (okq_reg rfl rfl) ?_
                    | refine x_pick_f rfl rfl rfl rfl (okq_reg rfl rfl) ?_
                    | refine x_not rfl rfl rfl (okq_reg rfl rfl) ?_
                    | refine x_extract rfl rfl rfl rfl (okq_reg rfl rfl) ?_
                    | refine x_nilCheck rfl rfl rfl (okq_reg rfl rfl) ?_
                    | refine x_fieldAddr rfl rfl rfl rfl (okq_reg rfl rfl) ?_
                    | refine x_skip (okq_reg rfl rfl) rfl rfl rfl ?_
                    | refine x_indexAddr1 rfl rfl rfl (by assumption) (by omega) (by omega) rfl (okq_reg rfl rfl) ?_
                    | refine x_indexAddr rfl rfl rfl (by assumption) (by omega) (by omega) rfl (okq_reg rfl rfl) ?_
                    | refine x_nil ?_
                    | refine cw_seq ?_
                    | refine nw_seq ?_
                    | refine nw_block ?_
                    | refine cw_block ?_
                    | refine cw_skip ?_
                    | refine cw_region ?_
                    | refine cw_exit rfl ?_
                    | refine cw_true rfl ?_
                    | refine cw_false rfl ?_)
                  refine nw_meet (_, (dropP p h).2) (by repeat (first | exact True.intro | refine ⟨rfl, ?_⟩)) ⟨?_, dropP_wf hw h, ?_, ?_, dropP_lens hln, k07, hX7, ?_, K6, G7, hS7, hQ7, (hKG6.symm.ext hS6.kin hE7).symm, hf.ext hE6 k05.size, hg.ext hE7 k06.size, ?_, ?_⟩
                  · simp
                  · have := dropP_len p h
                    simp only at *
                    omega
                  · have := dropP_back p h
                    simp only at *
                    omega
                  · have := hk6.size
                    have := hk7.size
                    omega
                  · rw [hE6.old _ hlt5]
                    exact kL
                  · rw [hE7.old _ hX6.lt]
                    exact gL
                · repeat (first
                    | refine x_move rfl rfl rfl trivial ?_
                    | refine x_assign rfl rfl rfl trivial ?_
                    | refine x_add rfl rfl rfl (wrap_i64 (by omega) (by omega)) rfl trivial ?_
                    | refine x_sub_ rfl rfl rfl (wrap_i64 (by omega) (by omega)) rfl trivial ?_
                    | refine x_sub_ rfl rfl rfl (wrap_u32 (by omega) (by omega)) rfl trivial ?_
                    | refine x_add rfl rfl rfl (wrap_u32 (by omega) (by omega)) rfl trivial ?_
                    | refine x_peqn rfl rfl rfl rfl trivial ?_
                    | refine x_pnen rfl rfl rfl rfl trivial ?_
                    | refine x_mul rfl rfl rfl (wrap_i64 (by omega) (by omega)) rfl trivial ?_
                    | refine x_ibin rfl rfl rfl rfl rfl trivial ?_
                    | refine x_neg_ rfl rfl (wrap_i64 (by omega) (by omega)) rfl trivial ?_
                    | refine x_len rfl rfl (by assumption) rfl trivial ?_
                    | refine x_pick_t rfl rfl rfl rfl trivial ?_
                    | refine x_pick_f rfl rfl rfl rfl trivial ?_
                    | refine x_not rfl rfl rfl trivial ?_
                    | refine x_beq rfl rfl rfl rfl trivial ?_
                    | refine x_bne rfl rfl rfl rfl trivial ?_
                    | refine x_extract rfl rfl rfl rfl trivial ?_
                    | refine x_nilCheck rfl rfl rfl trivial ?_
                    | refine x_fieldAddr rfl rfl rfl rfl trivial ?_
                    | refine x_skip trivial rfl rfl rfl ?_
                    | refine x_indexAddr1 rfl rfl rfl (by assumption) (by omega) (by omega) rfl trivial ?_
                    | refine x_indexAddr rfl rfl rfl (by assumption) (by omega) (by omega) rfl trivial ?_
                    | refine x_nil ?_
                    | refine cw_seq ?_
                    | refine nw_seq ?_
                    | refine nw_block ?_
                    | refine cw_block ?_
                    | refine cw_skip ?_
                    | refine cw_region ?_
                    | refine cw_exit rfl ?_
                    | refine cw_true rfl ?_
                    | refine cw_false rfl ?_)
                  refine nw_meet (true, p) (by repeat (first | exact True.intro | refine ⟨rfl, ?_⟩)) ⟨rfl, hw, ?_, ?_, hln, k05, hX5, Nat.le_refl _, K, G, hS5, hQ5, hKG, hf, hg, kL, gL⟩
                  · simp only
                    omega
                  · simp only
                    omega
          · rintro ⟨ok, p'⟩ H6 ⟨hok, hw6, htx6, hbk6, hln6', hk6, hX6, hsz6, K', G', hS6, hQ6, hKG6, hf6, hg6, kL6, gL6⟩
            simp only at hok htx6 hbk6
            subst hok
            have hw6 : p'.Wf := hw6
            have hln6' : ∀ x ∈ p'.tx, x.1.length ≤ 60 := hln6'
            have hS6 : Sp K' H6 b p' := hS6
            have hQ6 : Sq G' H6 c p' := hQ6
            have c62 : cel H6 H3.size 2 = some (.int .u32 (h : Nat)) := by rw [hX6.cel]; rfl
            repeat (first
              | refine x_move rfl rfl rfl trivial ?_
              | refine x_assign rfl rfl rfl trivial ?_
              | refine x_add rfl rfl rfl (wrap_i64 (by omega) (by omega)) rfl trivial ?_
              | refine x_sub_ rfl rfl rfl (wrap_i64 (by omega) (by omega)) rfl trivial ?_
              | refine x_sub_ rfl rfl rfl (wrap_u32 (by omega) (by omega)) rfl trivial ?_
              | refine x_add rfl rfl rfl (wrap_u32 (by omega) (by omega)) rfl trivial ?_
              | refine x_peqn rfl rfl rfl rfl trivial ?_
              | refine x_pnen rfl rfl rfl rfl trivial ?_
              | refine x_mul rfl rfl rfl (wrap_i64 (by omega) (by omega)) rfl trivial ?_
              | refine x_ibin rfl rfl rfl rfl rfl trivial ?_
              | refine x_neg_ rfl rfl (wrap_i64 (by omega) (by omega)) rfl trivial ?_
              | refine x_len rfl rfl (by assumption) rfl trivial ?_
              | refine x_pick_t rfl rfl rfl rfl trivial ?_
              | refine x_pick_f rfl rfl rfl rfl trivial ?_
              | refine x_not rfl rfl rfl trivial ?_
              | refine x_beq rfl rfl rfl rfl trivial ?_
              | refine x_bne rfl rfl rfl rfl trivial ?_
              | refine x_extract rfl rfl rfl rfl trivial ?_
              | refine x_nilCheck rfl rfl rfl trivial ?_
              | refine x_fieldAddr rfl rfl rfl rfl trivial ?_
              | refine x_skip trivial rfl rfl rfl ?_
              | refine x_indexAddr1 rfl rfl rfl (by assumption) (by omega) (by omega) rfl trivial ?_
              | refine x_indexAddr rfl rfl rfl (by assumption) (by omega) (by omega) rfl trivial ?_
              | refine x_nil ?_
              | refine cw_seq ?_
              | refine nw_seq ?_
              | refine nw_block ?_
              | refine cw_block ?_
              | refine cw_skip ?_
              | refine cw_region ?_
              | refine cw_exit rfl ?_
              | refine cw_true rfl ?_
              | refine cw_false rfl ?_)
            refine x_load rfl rfl (hpmt (c62)) rfl trivial ?_
            refine x_call rfl rfl rfl trivial (span_Get hS6 hh (by omega) (fun x hx => by have := hln6' x hx; omega)) ?_
            rintro _ H7 ⟨hk7, u, rfl, hu, hfu⟩
            refine ⟨trivial, ?_⟩
            have hS7 := hS6.keepN hk7
            have hQ7 := hQ6.keepN hk7
            have hX7 := hX6.keep hk7 (fun h => h)
            have c72 : cel H7 H3.size 2 = some (.int .u32 (h : Nat)) := by rw [hX7.cel]; rfl
            have k07 := hk6.non_trans hk7
            have sU := hu.sl
            repeat (first
              | refine x_move rfl rfl rfl trivial ?_
              | refine x_assign rfl rfl rfl trivial ?_
              | refine x_add rfl rfl rfl (wrap_i64 (by omega) (by omega)) rfl trivial ?_
              | refine x_sub_ rfl rfl rfl (wrap_i64 (by omega) (by omega)) rfl trivial ?_
              | refine x_sub_ rfl rfl rfl (wrap_u32 (by omega) (by omega)) rfl trivial ?_
              | refine x_add rfl rfl rfl (wrap_u32 (by omega) (by omega)) rfl trivial ?_
              | refine x_peqn rfl rfl rfl rfl trivial ?_
              | refine x_pnen rfl rfl rfl rfl trivial ?_
              | refine x_mul rfl rfl rfl (wrap_i64 (by omega) (by omega)) rfl trivial ?_
              | refine x_ibin rfl rfl rfl rfl rfl trivial ?_
              | refine x_neg_ rfl rfl (wrap_i64 (by omega) (by omega)) rfl trivial ?_
              | refine x_len rfl rfl (by assumption) rfl trivial ?_
              | refine x_pick_t rfl rfl rfl rfl trivial ?_
              | refine x_pick_f rfl rfl rfl rfl trivial ?_
              | refine x_not rfl rfl rfl trivial ?_
              | refine x_beq rfl rfl rfl rfl trivial ?_
              | refine x_bne rfl rfl rfl rfl trivial ?_
              | refine x_extract rfl rfl rfl rfl trivial ?_
              | refine x_nilCheck rfl rfl rfl trivial ?_
              | refine x_fieldAddr rfl rfl rfl rfl trivial ?_
              | refine x_skip trivial rfl rfl rfl ?_
              | refine x_indexAddr1 rfl rfl rfl (by assumption) (by omega) (by omega) rfl trivial ?_
              | refine x_indexAddr rfl rfl rfl (by assumption) (by omega) (by omega) rfl trivial ?_
              | refine x_nil ?_
              | refine cw_seq ?_
              | refine nw_seq ?_
              | refine nw_block ?_
              | refine cw_block ?_
              | refine cw_skip ?_
              | refine cw_region ?_
              | refine cw_exit rfl ?_
              | refine cw_true rfl ?_
              | refine cw_false rfl ?_)
            refine x_load rfl rfl (hpmt (c72)) rfl trivial ?_
            refine x_call rfl rfl rfl trivial (ref6_Has hQ7 hh) ?_
            rintro _ _ ⟨rfl, rfl⟩
            refine ⟨trivial, ?_⟩
            have k08 : ∀ H8, Keep (fun b => b = sb u ∧ 0 < sc u) H7 H8 → Keep Non H H8 ∧ Sp K' H8 b p' ∧ Sq G' H8 c p' := fun H8 hk8 => by
              have h1 : ∀ x, (x = sb u ∧ 0 < sc u) → H6.size ≤ x := fun x e => by
                have := hfu e.2
                rw [e.1]
                exact this
              refine ⟨k07.old hk8 (fun x hx e => ?_), hS7.keep hk8 (fun x hx e => ?_), hQ7.keep hk8 (fun x hx e => ?_)⟩
              · have := h1 x e
                have := k05.size
                omega
              · have := h1 x e
                have := hS6.kin x hx
                omega
              · have := h1 x e
                have := hQ6.kin x hx
                omega
            obtain ⟨vs, vt, vb, q1, q2, q3, q4, q5, q6, q7⟩ := hQ7.row
            have sS := q2.sl
            have e1 : (tS p').length = p'.tx.length + 1 := by simp [tS]
            rw [e1] at sS
            have c70 : cel H7 c 0 = some vs := by rw [q1.cel]; rfl
            have c74 : cel H7 c 4 = some (.int .i64 p'.used) := by rw [q1.cel]; rfl
            repeat (first
              | refine x_move rfl rfl rfl trivial ?_
              | refine x_assign rfl rfl rfl trivial ?_
              | refine x_add rfl rfl rfl (wrap_i64 (by omega) (by omega)) rfl trivial ?_
              | refine x_sub_ rfl rfl rfl (wrap_i64 (by omega) (by omega)) rfl trivial ?_
              | refine x_sub_ rfl rfl rfl (wrap_u32 (by omega) (by omega)) rfl trivial ?_
              | refine x_add rfl rfl rfl (wrap_u32 (by omega) (by omega)) rfl trivial ?_
              | refine x_peqn rfl rfl rfl rfl trivial ?_
              | refine x_pnen rfl rfl rfl rfl trivial ?_
              | refine x_mul rfl rfl rfl (wrap_i64 (by omega) (by omega)) rfl trivial ?_
              | refine x_ibin rfl rfl rfl rfl rfl trivial ?_
              | refine x_neg_ rfl rfl (wrap_i64 (by omega) (by omega)) rfl trivial ?_
              | refine x_len rfl rfl (by assumption) rfl trivial ?_
              | refine x_pick_t rfl rfl rfl rfl trivial ?_
              | refine x_pick_f rfl rfl rfl rfl trivial ?_
              | refine x_not rfl rfl rfl trivial ?_
              | refine x_beq rfl rfl rfl rfl trivial ?_
              | refine x_bne rfl rfl rfl rfl trivial ?_
              | refine x_extract rfl rfl rfl rfl trivial ?_
              | refine x_nilCheck rfl rfl rfl trivial ?_
              | refine x_fieldAddr rfl rfl rfl rfl trivial ?_
              | refine x_skip trivial rfl rfl rfl ?_
              | refine x_indexAddr1 rfl rfl rfl (by assumption) (by omega) (by omega) rfl trivial ?_
              | refine x_indexAddr rfl rfl rfl (by assumption) (by omega) (by omega) rfl trivial ?_
              | refine x_nil ?_
              | refine cw_seq ?_
              | refine nw_seq ?_
              | refine nw_block ?_
              | refine cw_block ?_
              | refine cw_skip ?_
              | refine cw_region ?_
              | refine cw_exit rfl ?_
              | refine cw_true rfl ?_
              | refine cw_false rfl ?_)
            refine cw_quiet mixed (by kernel_rfl) ?_
            have hgl : (getP p' h).length ≤ 60 := getP_len hln6'
            cases hp : hasP p' h with
            | true =>
              obtain ⟨g1, bb, g2⟩ := hasP_iff.1 hp
              have g3 := (List.getElem?_eq_some_iff.1 g2).1
              obtain ⟨x, hx, hcx⟩ := q2.rd.cel1 encS_len (tS_get hp)
              have eg : getP p' h = strP p' h := by unfold getP; rw [if_pos hp]
              repeat (first
                | refine x_move rfl rfl rfl trivial ?_
                | refine x_assign rfl rfl rfl trivial ?_
                | refine x_add rfl rfl rfl (wrap_i64 (by omega) (by omega)) rfl trivial ?_
                | refine x_sub_ rfl rfl rfl (wrap_i64 (by omega) (by omega)) rfl trivial ?_
                | refine x_sub_ rfl rfl rfl (wrap_u32 (by omega) (by omega)) rfl trivial ?_
                | refine x_add rfl rfl rfl (wrap_u32 (by omega) (by omega)) rfl trivial ?_
                | refine x_peqn rfl rfl rfl rfl trivial ?_
                | refine x_pnen rfl rfl rfl rfl trivial ?_
                | refine x_mul rfl rfl rfl (wrap_i64 (by omega) (by omega)) rfl trivial ?_
                | refine x_ibin rfl rfl rfl rfl rfl trivial ?_
                | refine x_neg_ rfl rfl (wrap_i64 (by omega) (by omega)) rfl trivial ?_
                | refine x_len rfl rfl (by assumption) rfl trivial ?_
                | refine x_pick_t rfl rfl rfl rfl trivial ?_
                | refine x_pick_f rfl rfl rfl rfl trivial ?_
                | refine x_not rfl rfl rfl trivial ?_
                | refine x_beq rfl rfl rfl rfl trivial ?_
                | refine x_bne rfl rfl rfl rfl trivial ?_
                | refine x_extract rfl rfl rfl rfl trivial ?_
                | refine x_nilCheck rfl rfl rfl trivial ?_
                | refine x_fieldAddr rfl rfl rfl rfl trivial ?_
                | refine x_skip trivial rfl rfl rfl ?_
                | refine x_indexAddr1 rfl rfl rfl (by assumption) (by omega) (by omega) rfl trivial ?_
                | refine x_indexAddr rfl rfl rfl (by assumption) (by omega) (by omega) rfl trivial ?_
                | refine x_nil ?_
                | refine cw_seq ?_
                | refine nw_seq ?_
                | refine nw_block ?_
                | refine cw_block ?_
                | refine cw_skip ?_
                | refine cw_region ?_
                | refine cw_exit rfl ?_
                | refine cw_true rfl ?_
                | refine cw_false rfl ?_)
              refine x_load rfl rfl (hpmt (c70)) rfl trivial ?_
              repeat (first
                | refine x_move rfl rfl rfl trivial ?_
                | refine x_assign rfl rfl rfl trivial ?_
                | refine x_add rfl rfl rfl (wrap_i64 (by omega) (by omega)) rfl trivial ?_
                | refine x_sub_ rfl rfl rfl (wrap_i64 (by omega) (by omega)) rfl trivial ?_
                | refine x_sub_ rfl rfl rfl (wrap_u32 (by omega) (by omega)) rfl trivial ?_
                | refine x_add rfl rfl rfl (wrap_u32 (by omega) (by omega)) rfl trivial ?_
                | refine x_peqn rfl rfl rfl rfl trivial ?_
                | refine x_pnen rfl rfl rfl rfl trivial ?_
                | refine x_mul rfl rfl rfl (wrap_i64 (by omega) (by omega)) rfl trivial ?_
                | refine x_ibin rfl rfl rfl rfl rfl trivial ?_
                | refine x_neg_ rfl rfl (wrap_i64 (by omega) (by omega)) rfl trivial ?_
                | refine x_len rfl rfl (by assumption) rfl trivial ?_
                | refine x_pick_t rfl rfl rfl rfl trivial ?_
                | refine x_pick_f rfl rfl rfl rfl trivial ?_
                | refine x_not rfl rfl rfl trivial ?_
                | refine x_beq rfl rfl rfl rfl trivial ?_
                | refine x_bne rfl rfl rfl rfl trivial ?_
                | refine x_extract rfl rfl rfl rfl trivial ?_
                | refine x_nilCheck rfl rfl rfl trivial ?_
                | refine x_fieldAddr rfl rfl rfl rfl trivial ?_
                | refine x_skip trivial rfl rfl rfl ?_
                | refine x_indexAddr1 rfl rfl rfl (by assumption) (by omega) (by omega) rfl trivial ?_
                | refine x_indexAddr rfl rfl rfl (by assumption) (by omega) (by omega) rfl trivial ?_
                | refine x_nil ?_
                | refine cw_seq ?_
                | refine nw_seq ?_
                | refine nw_block ?_
                | refine cw_block ?_
                | refine cw_skip ?_
                | refine cw_region ?_
                | refine cw_exit rfl ?_
                | refine cw_true rfl ?_
                | refine cw_false rfl ?_)
              refine x_load rfl rfl (hpmt (c72)) rfl trivial ?_
              repeat (first
                | refine x_move rfl rfl rfl trivial ?_
                | refine x_assign rfl rfl rfl trivial ?_
                | refine x_add rfl rfl rfl (wrap_i64 (by omega) (by omega)) rfl trivial ?_
                | refine x_sub_ rfl rfl rfl (wrap_i64 (by omega) (by omega)) rfl trivial ?_
                | refine x_sub_ rfl rfl rfl (wrap_u32 (by omega) (by omega)) rfl trivial ?_
                | refine x_add rfl rfl rfl (wrap_u32 (by omega) (by omega)) rfl trivial ?_
                | refine x_peqn rfl rfl rfl rfl trivial ?_
                | refine x_pnen rfl rfl rfl rfl trivial ?_
                | refine x_mul rfl rfl rfl (wrap_i64 (by omega) (by omega)) rfl trivial ?_
                | refine x_ibin rfl rfl rfl rfl rfl trivial ?_
                | refine x_neg_ rfl rfl (wrap_i64 (by omega) (by omega)) rfl trivial ?_
                | refine x_len rfl rfl (by assumption) rfl trivial ?_
                | refine x_pick_t rfl rfl rfl rfl trivial ?_
                | refine x_pick_f rfl rfl rfl rfl trivial ?_
                | refine x_not rfl rfl rfl trivial ?_
                | refine x_beq rfl rfl rfl rfl trivial ?_
                | refine x_bne rfl rfl rfl rfl trivial ?_
                | refine x_extract rfl rfl rfl rfl trivial ?_
                | refine x_nilCheck rfl rfl rfl trivial ?_
                | refine x_fieldAddr rfl rfl rfl rfl trivial ?_
                | refine x_skip trivial rfl rfl rfl ?_
                | refine x_indexAddr1 rfl rfl rfl (by assumption) (by omega) (by omega) rfl trivial ?_
                | refine x_indexAddr rfl rfl rfl (by assumption) (by omega) (by omega) rfl trivial ?_
                | refine x_nil ?_
                | refine cw_seq ?_
                | refine nw_seq ?_
                | refine nw_block ?_
                | refine cw_block ?_
                | refine cw_skip ?_
                | refine cw_region ?_
                | refine cw_exit rfl ?_
                | refine cw_true rfl ?_
                | refine cw_false rfl ?_)
              refine x_load rfl rfl (hpmt (hcx)) rfl trivial ?_
              refine x_callq rfl rfl rfl ((law_SameBytes hu.bs hx.1).mono fun _ _ h => ⟨h.1.symm, h.2⟩) ?_
              repeat (first
                | refine x_move rfl rfl rfl trivial ?_
                | refine x_assign rfl rfl rfl trivial ?_
                | refine x_add rfl rfl rfl (wrap_i64 (by omega) (by omega)) rfl trivial ?_
                | refine x_sub_ rfl rfl rfl (wrap_i64 (by omega) (by omega)) rfl trivial ?_
                | refine x_sub_ rfl rfl rfl (wrap_u32 (by omega) (by omega)) rfl trivial ?_
                | refine x_add rfl rfl rfl (wrap_u32 (by omega) (by omega)) rfl trivial ?_
                | refine x_peqn rfl rfl rfl rfl trivial ?_
                | refine x_pnen rfl rfl rfl rfl trivial ?_
                | refine x_mul rfl rfl rfl (wrap_i64 (by omega) (by omega)) rfl trivial ?_
                | refine x_ibin rfl rfl rfl rfl rfl trivial ?_
                | refine x_neg_ rfl rfl (wrap_i64 (by omega) (by omega)) rfl trivial ?_
                | refine x_len rfl rfl (by assumption) rfl trivial ?_
                | refine x_pick_t rfl rfl rfl rfl trivial ?_
                | refine x_pick_f rfl rfl rfl rfl trivial ?_
                | refine x_not rfl rfl rfl trivial ?_
                | refine x_beq rfl rfl rfl rfl trivial ?_
                | refine x_bne rfl rfl rfl rfl trivial ?_
                | refine x_extract rfl rfl rfl rfl trivial ?_
                | refine x_nilCheck rfl rfl rfl trivial ?_
                | refine x_fieldAddr rfl rfl rfl rfl trivial ?_
                | refine x_skip trivial rfl rfl rfl ?_
                | refine x_indexAddr1 rfl rfl rfl (by assumption) (by omega) (by omega) rfl trivial ?_
                | refine x_indexAddr rfl rfl rfl (by assumption) (by omega) (by omega) rfl trivial ?_
                | refine x_nil ?_
                | refine cw_seq ?_
                | refine nw_seq ?_
                | refine nw_block ?_
                | refine cw_block ?_
                | refine cw_skip ?_
                | refine cw_region ?_
                | refine cw_exit rfl ?_
                | refine cw_true rfl ?_
                | refine cw_false rfl ?_)
              refine x_false 160 rfl (by simp [eg]) ?_
              repeat (first
                | refine x_move rfl rfl rfl trivial ?_
                | refine x_assign rfl rfl rfl trivial ?_
                | refine x_add rfl rfl rfl (wrap_i64 (by omega) (by omega)) rfl trivial ?_
                | refine x_sub_ rfl rfl rfl (wrap_i64 (by omega) (by omega)) rfl trivial ?_
                | refine x_sub_ rfl rfl rfl (wrap_u32 (by omega) (by omega)) rfl trivial ?_
                | refine x_add rfl rfl rfl (wrap_u32 (by omega) (by omega)) rfl trivial ?_
                | refine x_peqn rfl rfl rfl rfl trivial ?_
                | refine x_pnen rfl rfl rfl rfl trivial ?_
                | refine x_mul rfl rfl rfl (wrap_i64 (by omega) (by omega)) rfl trivial ?_
                | refine x_ibin rfl rfl rfl rfl rfl trivial ?_
                | refine x_neg_ rfl rfl (wrap_i64 (by omega) (by omega)) rfl trivial ?_
                | refine x_len rfl rfl (by assumption) rfl trivial ?_
                | refine x_pick_t rfl rfl rfl rfl trivial ?_
                | refine x_pick_f rfl rfl rfl rfl trivial ?_
                | refine x_not rfl rfl rfl trivial ?_
                | refine x_beq rfl rfl rfl rfl trivial ?_
                | refine x_bne rfl rfl rfl rfl trivial ?_
                | refine x_extract rfl rfl rfl rfl trivial ?_
                | refine x_nilCheck rfl rfl rfl trivial ?_
                | refine x_fieldAddr rfl rfl rfl rfl trivial ?_
                | refine x_skip trivial rfl rfl rfl ?_
                | refine x_indexAddr1 rfl rfl rfl (by assumption) (by omega) (by omega) rfl trivial ?_
                | refine x_indexAddr rfl rfl rfl (by assumption) (by omega) (by omega) rfl trivial ?_
                | refine x_nil ?_
                | refine cw_seq ?_
                | refine nw_seq ?_
                | refine nw_block ?_
                | refine cw_block ?_
                | refine cw_skip ?_
                | refine cw_region ?_
                | refine cw_exit rfl ?_
                | refine cw_true rfl ?_
                | refine cw_false rfl ?_)
              refine x_callq rfl rfl rfl ((span_Used hS7).mono fun _ _ h => ⟨h.1.symm, h.2⟩) ?_
              repeat (first
                | refine x_move rfl rfl rfl trivial ?_
                | refine x_assign rfl rfl rfl trivial ?_
                | refine x_add rfl rfl rfl (wrap_i64 (by omega) (by omega)) rfl trivial ?_
                | refine x_sub_ rfl rfl rfl (wrap_i64 (by omega) (by omega)) rfl trivial ?_
                | refine x_sub_ rfl rfl rfl (wrap_u32 (by omega) (by omega)) rfl trivial ?_
                | refine x_add rfl rfl rfl (wrap_u32 (by omega) (by omega)) rfl trivial ?_
                | refine x_peqn rfl rfl rfl rfl trivial ?_
                | refine x_pnen rfl rfl rfl rfl trivial ?_
                | refine x_mul rfl rfl rfl (wrap_i64 (by omega) (by omega)) rfl trivial ?_
                | refine x_ibin rfl rfl rfl rfl rfl trivial ?_
                | refine x_neg_ rfl rfl (wrap_i64 (by omega) (by omega)) rfl trivial ?_
                | refine x_len rfl rfl (by assumption) rfl trivial ?_
                | refine x_pick_t rfl rfl rfl rfl trivial ?_
                | refine x_pick_f rfl rfl rfl rfl trivial ?_
                | refine x_not rfl rfl rfl trivial ?_
                | refine x_beq rfl rfl rfl rfl trivial ?_
                | refine x_bne rfl rfl rfl rfl trivial ?_
                | refine x_extract rfl rfl rfl rfl trivial ?_
                | refine x_nilCheck rfl rfl rfl trivial ?_
                | refine x_fieldAddr rfl rfl rfl rfl trivial ?_
                | refine x_skip trivial rfl rfl rfl ?_
                | refine x_indexAddr1 rfl rfl rfl (by assumption) (by omega) (by omega) rfl trivial ?_
                | refine x_indexAddr rfl rfl rfl (by assumption) (by omega) (by omega) rfl trivial ?_
                | refine x_nil ?_
                | refine cw_seq ?_
                | refine nw_seq ?_
                | refine nw_block ?_
                | refine cw_block ?_
                | refine cw_skip ?_
                | refine cw_region ?_
                | refine cw_exit rfl ?_
                | refine cw_true rfl ?_
                | refine cw_false rfl ?_)
              refine x_load rfl rfl (hpmt (c74)) rfl trivial ?_
              repeat (first
                | refine x_move rfl rfl rfl trivial ?_
                | refine x_assign rfl rfl rfl trivial ?_
                | refine x_add rfl rfl rfl (wrap_i64 (by omega) (by omega)) rfl trivial ?_
                | refine x_sub_ rfl rfl rfl (wrap_i64 (by omega) (by omega)) rfl trivial ?_
                | refine x_sub_ rfl rfl rfl (wrap_u32 (by omega) (by omega)) rfl trivial ?_
                | refine x_add rfl rfl rfl (wrap_u32 (by omega) (by omega)) rfl trivial ?_
                | refine x_peqn rfl rfl rfl rfl trivial ?_
                | refine x_pnen rfl rfl rfl rfl trivial ?_
                | refine x_mul rfl rfl rfl (wrap_i64 (by omega) (by omega)) rfl trivial ?_
                | refine x_ibin rfl rfl rfl rfl rfl trivial ?_
                | refine x_neg_ rfl rfl (wrap_i64 (by omega) (by omega)) rfl trivial ?_
                | refine x_len rfl rfl (by assumption) rfl trivial ?_
                | refine x_pick_t rfl rfl rfl rfl trivial ?_
                | refine x_pick_f rfl rfl rfl rfl trivial ?_
                | refine x_not rfl rfl rfl trivial ?_
                | refine x_beq rfl rfl rfl rfl trivial ?_
                | refine x_bne rfl rfl rfl rfl trivial ?_
                | refine x_extract rfl rfl rfl rfl trivial ?_
                | refine x_nilCheck rfl rfl rfl trivial ?_
                | refine x_fieldAddr rfl rfl rfl rfl trivial ?_
                | refine x_skip trivial rfl rfl rfl ?_
                | refine x_indexAddr1 rfl rfl rfl (by assumption) (by omega) (by omega) rfl trivial ?_
                | refine x_indexAddr rfl rfl rfl (by assumption) (by omega) (by omega) rfl trivial ?_
                | refine x_nil ?_
                | refine cw_seq ?_
                | refine nw_seq ?_
                | refine nw_block ?_
                | refine cw_block ?_
                | refine cw_skip ?_
                | refine cw_region ?_
                | refine cw_exit rfl ?_
                | refine cw_true rfl ?_
                | refine cw_false rfl ?_)
              refine x_false 169 rfl (by simp) ?_
              repeat (first
                | refine x_move rfl rfl rfl trivial ?_
                | refine x_assign rfl rfl rfl trivial ?_
                | refine x_add rfl rfl rfl (wrap_i64 (by omega) (by omega)) rfl trivial ?_
                | refine x_sub_ rfl rfl rfl (wrap_i64 (by omega) (by omega)) rfl trivial ?_
                | refine x_sub_ rfl rfl rfl (wrap_u32 (by omega) (by omega)) rfl trivial ?_
                | refine x_add rfl rfl rfl (wrap_u32 (by omega) (by omega)) rfl trivial ?_
                | refine x_peqn rfl rfl rfl rfl trivial ?_
                | refine x_pnen rfl rfl rfl rfl trivial ?_
                | refine x_mul rfl rfl rfl (wrap_i64 (by omega) (by omega)) rfl trivial ?_
                | refine x_ibin rfl rfl rfl rfl rfl trivial ?_
                | refine x_neg_ rfl rfl (wrap_i64 (by omega) (by omega)) rfl trivial ?_
                | refine x_len rfl rfl (by assumption) rfl trivial ?_
                | refine x_pick_t rfl rfl rfl rfl trivial ?_
                | refine x_pick_f rfl rfl rfl rfl trivial ?_
                | refine x_not rfl rfl rfl trivial ?_
                | refine x_beq rfl rfl rfl rfl trivial ?_
                | refine x_bne rfl rfl rfl rfl trivial ?_
                | refine x_extract rfl rfl rfl rfl trivial ?_
                | refine x_nilCheck rfl rfl rfl trivial ?_
                | refine x_fieldAddr rfl rfl rfl rfl trivial ?_
                | refine x_skip trivial rfl rfl rfl ?_
                | refine x_indexAddr1 rfl rfl rfl (by assumption) (by omega) (by omega) rfl trivial ?_
                | refine x_indexAddr rfl rfl rfl (by assumption) (by omega) (by omega) rfl trivial ?_
                | refine x_nil ?_
                | refine cw_seq ?_
                | refine nw_seq ?_
                | refine nw_block ?_
                | refine cw_block ?_
                | refine cw_skip ?_
                | refine cw_region ?_
                | refine cw_exit rfl ?_
                | refine cw_true rfl ?_
                | refine cw_false rfl ?_)
              refine x_callq rfl rfl rfl ((span_Live hS7 (by omega) (by omega)).mono fun _ _ h => ⟨h.1.symm, h.2⟩) ?_
              repeat (first
                | refine x_move rfl rfl rfl trivial ?_
                | refine x_assign rfl rfl rfl trivial ?_
                | refine x_add rfl rfl rfl (wrap_i64 (by omega) (by omega)) rfl trivial ?_
                | refine x_sub_ rfl rfl rfl (wrap_i64 (by omega) (by omega)) rfl trivial ?_
                | refine x_sub_ rfl rfl rfl (wrap_u32 (by omega) (by omega)) rfl trivial ?_
                | refine x_add rfl rfl rfl (wrap_u32 (by omega) (by omega)) rfl trivial ?_
                | refine x_peqn rfl rfl rfl rfl trivial ?_
                | refine x_pnen rfl rfl rfl rfl trivial ?_
                | refine x_mul rfl rfl rfl (wrap_i64 (by omega) (by omega)) rfl trivial ?_
                | refine x_ibin rfl rfl rfl rfl rfl trivial ?_
                | refine x_neg_ rfl rfl (wrap_i64 (by omega) (by omega)) rfl trivial ?_
                | refine x_len rfl rfl (by assumption) rfl trivial ?_
                | refine x_pick_t rfl rfl rfl rfl trivial ?_
                | refine x_pick_f rfl rfl rfl rfl trivial ?_
                | refine x_not rfl rfl rfl trivial ?_
                | refine x_beq rfl rfl rfl rfl trivial ?_
                | refine x_bne rfl rfl rfl rfl trivial ?_
                | refine x_extract rfl rfl rfl rfl trivial ?_
                | refine x_nilCheck rfl rfl rfl trivial ?_
                | refine x_fieldAddr rfl rfl rfl rfl trivial ?_
                | refine x_skip trivial rfl rfl rfl ?_
                | refine x_indexAddr1 rfl rfl rfl (by assumption) (by omega) (by omega) rfl trivial ?_
                | refine x_indexAddr rfl rfl rfl (by assumption) (by omega) (by omega) rfl trivial ?_
                | refine x_nil ?_
                | refine cw_seq ?_
                | refine nw_seq ?_
                | refine nw_block ?_
                | refine cw_block ?_
                | refine cw_skip ?_
                | refine cw_region ?_
                | refine cw_exit rfl ?_
                | refine cw_true rfl ?_
                | refine cw_false rfl ?_)
              refine x_callq rfl rfl rfl ((ref6_Live hQ7 (by omega) (by omega)).mono fun _ _ h => ⟨h.1.symm, h.2⟩) ?_
              repeat (first
                | refine x_move rfl rfl rfl trivial ?_
                | refine x_assign rfl rfl rfl trivial ?_
                | refine x_add rfl rfl rfl (wrap_i64 (by omega) (by omega)) rfl trivial ?_
                | refine x_sub_ rfl rfl rfl (wrap_i64 (by omega) (by omega)) rfl trivial ?_
                | refine x_sub_ rfl rfl rfl (wrap_u32 (by omega) (by omega)) rfl trivial ?_
                | refine x_add rfl rfl rfl (wrap_u32 (by omega) (by omega)) rfl trivial ?_
                | refine x_peqn rfl rfl rfl rfl trivial ?_
                | refine x_pnen rfl rfl rfl rfl trivial ?_
                | refine x_mul rfl rfl rfl (wrap_i64 (by omega) (by omega)) rfl trivial ?_
                | refine x_ibin rfl rfl rfl rfl rfl trivial ?_
                | refine x_neg_ rfl rfl (wrap_i64 (by omega) (by omega)) rfl trivial ?_
                | refine x_len rfl rfl (by assumption) rfl trivial ?_
                | refine x_pick_t rfl rfl rfl rfl trivial ?_
                | refine x_pick_f rfl rfl rfl rfl trivial ?_
                | refine x_not rfl rfl rfl trivial ?_
                | refine x_beq rfl rfl rfl rfl trivial ?_
                | refine x_bne rfl rfl rfl rfl trivial ?_
                | refine x_extract rfl rfl rfl rfl trivial ?_
                | refine x_nilCheck rfl rfl rfl trivial ?_
                | refine x_fieldAddr rfl rfl rfl rfl trivial ?_
                | refine x_skip trivial rfl rfl rfl ?_
                | refine x_indexAddr1 rfl rfl rfl (by assumption) (by omega) (by omega) rfl trivial ?_
                | refine x_indexAddr rfl rfl rfl (by assumption) (by omega) (by omega) rfl trivial ?_
                | refine x_nil ?_
                | refine cw_seq ?_
                | refine nw_seq ?_
                | refine nw_block ?_
                | refine cw_block ?_
                | refine cw_skip ?_
                | refine cw_region ?_
                | refine cw_exit rfl ?_
                | refine cw_true rfl ?_
                | refine cw_false rfl ?_)
              refine cw_cond rfl (fun h => absurd h (by simp)) (fun _ => ?_)
              repeat (first
                | refine x_move rfl rfl rfl trivial ?_
                | refine x_assign rfl rfl rfl trivial ?_
                | refine x_add rfl rfl rfl (wrap_i64 (by omega) (by omega)) rfl trivial ?_
                | refine x_sub_ rfl rfl rfl (wrap_i64 (by omega) (by omega)) rfl trivial ?_
                | refine x_sub_ rfl rfl rfl (wrap_u32 (by omega) (by omega)) rfl trivial ?_
                | refine x_add rfl rfl rfl (wrap_u32 (by omega) (by omega)) rfl trivial ?_
                | refine x_peqn rfl rfl rfl rfl trivial ?_
                | refine x_pnen rfl rfl rfl rfl trivial ?_
                | refine x_mul rfl rfl rfl (wrap_i64 (by omega) (by omega)) rfl trivial ?_
                | refine x_ibin rfl rfl rfl rfl rfl trivial ?_
                | refine x_neg_ rfl rfl (wrap_i64 (by omega) (by omega)) rfl trivial ?_
                | refine x_len rfl rfl (by assumption) rfl trivial ?_
                | refine x_pick_t rfl rfl rfl rfl trivial ?_
                | refine x_pick_f rfl rfl rfl rfl trivial ?_
                | refine x_not rfl rfl rfl trivial ?_
                | refine x_beq rfl rfl rfl rfl trivial ?_
                | refine x_bne rfl rfl rfl rfl trivial ?_
                | refine x_extract rfl rfl rfl rfl trivial ?_
                | refine x_nilCheck rfl rfl rfl trivial ?_
                | refine x_fieldAddr rfl rfl rfl rfl trivial ?_
                | refine x_skip trivial rfl rfl rfl ?_
                | refine x_indexAddr1 rfl rfl rfl (by assumption) (by omega) (by omega) rfl trivial ?_
                | refine x_indexAddr rfl rfl rfl (by assumption) (by omega) (by omega) rfl trivial ?_
                | refine x_nil ?_
                | refine cw_seq ?_
                | refine nw_seq ?_
                | refine nw_block ?_
                | refine cw_block ?_
                | refine cw_skip ?_
                | refine cw_region ?_
                | refine cw_exit rfl ?_
                | refine cw_true rfl ?_
                | refine cw_false rfl ?_)
              refine x_call rfl rfl rfl trivial (law_OverBytes hu (by omega)) ?_
              rintro _ H8 ⟨rfl, hk8⟩
              refine ⟨trivial, ?_⟩
              obtain ⟨k8, s8, q8⟩ := k08 H8 hk8
              repeat (first
                | refine x_move rfl rfl rfl trivial ?_
                | refine x_assign rfl rfl rfl trivial ?_
                | refine x_add rfl rfl rfl (wrap_i64 (by omega) (by omega)) rfl trivial ?_
                | refine x_sub_ rfl rfl rfl (wrap_i64 (by omega) (by omega)) rfl trivial ?_
                | refine x_sub_ rfl rfl rfl (wrap_u32 (by omega) (by omega)) rfl trivial ?_
                | refine x_add rfl rfl rfl (wrap_u32 (by omega) (by omega)) rfl trivial ?_
                | refine x_peqn rfl rfl rfl rfl trivial ?_
                | refine x_pnen rfl rfl rfl rfl trivial ?_
                | refine x_mul rfl rfl rfl (wrap_i64 (by omega) (by omega)) rfl trivial ?_
                | refine x_ibin rfl rfl rfl rfl rfl trivial ?_
                | refine x_neg_ rfl rfl (wrap_i64 (by omega) (by omega)) rfl trivial ?_
                | refine x_len rfl rfl (by assumption) rfl trivial ?_
                | refine x_pick_t rfl rfl rfl rfl trivial ?_
                | refine x_pick_f rfl rfl rfl rfl trivial ?_
                | refine x_not rfl rfl rfl trivial ?_
                | refine x_beq rfl rfl rfl rfl trivial ?_
                | refine x_bne rfl rfl rfl rfl trivial ?_
                | refine x_extract rfl rfl rfl rfl trivial ?_
                | refine x_nilCheck rfl rfl rfl trivial ?_
                | refine x_fieldAddr rfl rfl rfl rfl trivial ?_
                | refine x_skip trivial rfl rfl rfl ?_
                | refine x_indexAddr1 rfl rfl rfl (by assumption) (by omega) (by omega) rfl trivial ?_
                | refine x_indexAddr rfl rfl rfl (by assumption) (by omega) (by omega) rfl trivial ?_
                | refine x_nil ?_
                | refine cw_seq ?_
                | refine nw_seq ?_
                | refine nw_block ?_
                | refine cw_block ?_
                | refine cw_skip ?_
                | refine cw_region ?_
                | refine cw_exit rfl ?_
                | refine cw_true rfl ?_
                | refine cw_false rfl ?_)
              refine nw_round (i + 1, p') (by repeat (first | exact True.intro | refine ⟨rfl, ?_⟩)) ⟨by show i + 1 ≤ _; omega, hw6, htx6, hbk6, hln6', k8, K', G', s8, q8, hKG6, hf6, hg6⟩ (by show acts.length - (i + 1) < acts.length - i; omega)
            | false =>
              have eg : getP p' h = [] := by unfold getP; rw [hp]; rfl
              rw [eg] at sU
              repeat (first
                | refine x_move rfl rfl rfl trivial ?_
                | refine x_assign rfl rfl rfl trivial ?_
                | refine x_add rfl rfl rfl (wrap_i64 (by omega) (by omega)) rfl trivial ?_
                | refine x_sub_ rfl rfl rfl (wrap_i64 (by omega) (by omega)) rfl trivial ?_
                | refine x_sub_ rfl rfl rfl (wrap_u32 (by omega) (by omega)) rfl trivial ?_
                | refine x_add rfl rfl rfl (wrap_u32 (by omega) (by omega)) rfl trivial ?_
                | refine x_peqn rfl rfl rfl rfl trivial ?_
                | refine x_pnen rfl rfl rfl rfl trivial ?_
                | refine x_mul rfl rfl rfl (wrap_i64 (by omega) (by omega)) rfl trivial ?_
                | refine x_ibin rfl rfl rfl rfl rfl trivial ?_
                | refine x_neg_ rfl rfl (wrap_i64 (by omega) (by omega)) rfl trivial ?_
                | refine x_len rfl rfl (by assumption) rfl trivial ?_
                | refine x_pick_t rfl rfl rfl rfl trivial ?_
                | refine x_pick_f rfl rfl rfl rfl trivial ?_
                | refine x_not rfl rfl rfl trivial ?_
                | refine x_beq rfl rfl rfl rfl trivial ?_
                | refine x_bne rfl rfl rfl rfl trivial ?_
                | refine x_extract rfl rfl rfl rfl trivial ?_
                | refine x_nilCheck rfl rfl rfl trivial ?_
                | refine x_fieldAddr rfl rfl rfl rfl trivial ?_
                | refine x_skip trivial rfl rfl rfl ?_
                | refine x_indexAddr1 rfl rfl rfl (by assumption) (by omega) (by omega) rfl trivial ?_
                | refine x_indexAddr rfl rfl rfl (by assumption) (by omega) (by omega) rfl trivial ?_
                | refine x_nil ?_
                | refine cw_seq ?_
                | refine nw_seq ?_
                | refine nw_block ?_
                | refine cw_block ?_
                | refine cw_skip ?_
                | refine cw_region ?_
                | refine cw_exit rfl ?_
                | refine cw_true rfl ?_
                | refine cw_false rfl ?_)
              refine x_callq rfl rfl rfl ((span_Used hS7).mono fun _ _ h => ⟨h.1.symm, h.2⟩) ?_
              repeat (first
                | refine x_move rfl rfl rfl trivial ?_
                | refine x_assign rfl rfl rfl trivial ?_
                | refine x_add rfl rfl rfl (wrap_i64 (by omega) (by omega)) rfl trivial ?_
                | refine x_sub_ rfl rfl rfl (wrap_i64 (by omega) (by omega)) rfl trivial ?_
                | refine x_sub_ rfl rfl rfl (wrap_u32 (by omega) (by omega)) rfl trivial ?_
                | refine x_add rfl rfl rfl (wrap_u32 (by omega) (by omega)) rfl trivial ?_
                | refine x_peqn rfl rfl rfl rfl trivial ?_
                | refine x_pnen rfl rfl rfl rfl trivial ?_
                | refine x_mul rfl rfl rfl (wrap_i64 (by omega) (by omega)) rfl trivial ?_
                | refine x_ibin rfl rfl rfl rfl rfl trivial ?_
                | refine x_neg_ rfl rfl (wrap_i64 (by omega) (by omega)) rfl trivial ?_
                | refine x_len rfl rfl (by assumption) rfl trivial ?_
                | refine x_pick_t rfl rfl rfl rfl trivial ?_
                | refine x_pick_f rfl rfl rfl rfl trivial ?_
                | refine x_not rfl rfl rfl trivial ?_
                | refine x_beq rfl rfl rfl rfl trivial ?_
                | refine x_bne rfl rfl rfl rfl trivial ?_
                | refine x_extract rfl rfl rfl rfl trivial ?_
                | refine x_nilCheck rfl rfl rfl trivial ?_
                | refine x_fieldAddr rfl rfl rfl rfl trivial ?_
                | refine x_skip trivial rfl rfl rfl ?_
                | refine x_indexAddr1 rfl rfl rfl (by assumption) (by omega) (by omega) rfl trivial ?_
                | refine x_indexAddr rfl rfl rfl (by assumption) (by omega) (by omega) rfl trivial ?_
                | refine x_nil ?_
                | refine cw_seq ?_
                | refine nw_seq ?_
                | refine nw_block ?_
                | refine cw_block ?_
                | refine cw_skip ?_
                | refine cw_region ?_
                | refine cw_exit rfl ?_
                | refine cw_true rfl ?_
                | refine cw_false rfl ?_)
              refine x_load rfl rfl (hpmt (c74)) rfl trivial ?_
              repeat (first
                | refine x_move rfl rfl rfl trivial ?_
                | refine x_assign rfl rfl rfl trivial ?_
                | refine x_add rfl rfl rfl (wrap_i64 (by omega) (by omega)) rfl trivial ?_
                | refine x_sub_ rfl rfl rfl (wrap_i64 (by omega) (by omega)) rfl trivial ?_
                | refine x_sub_ rfl rfl rfl (wrap_u32 (by omega) (by omega)) rfl trivial ?_
                | refine x_add rfl rfl rfl (wrap_u32 (by omega) (by omega)) rfl trivial ?_
                | refine x_peqn rfl rfl rfl rfl trivial ?_
                | refine x_pnen rfl rfl rfl rfl trivial ?_
                | refine x_mul rfl rfl rfl (wrap_i64 (by omega) (by omega)) rfl trivial ?_
                | refine x_ibin rfl rfl rfl rfl rfl trivial ?_
                | refine x_neg_ rfl rfl (wrap_i64 (by omega) (by omega)) rfl trivial ?_
                | refine x_len rfl rfl (by assumption) rfl trivial ?_
                | refine x_pick_t rfl rfl rfl rfl trivial ?_
                | refine x_pick_f rfl rfl rfl rfl trivial ?_
                | refine x_not rfl rfl rfl trivial ?_
                | refine x_beq rfl rfl rfl rfl trivial ?_
                | refine x_bne rfl rfl rfl rfl trivial ?_
                | refine x_extract rfl rfl rfl rfl trivial ?_
                | refine x_nilCheck rfl rfl rfl trivial ?_
                | refine x_fieldAddr rfl rfl rfl rfl trivial ?_
                | refine x_skip trivial rfl rfl rfl ?_
                | refine x_indexAddr1 rfl rfl rfl (by assumption) (by omega) (by omega) rfl trivial ?_
                | refine x_indexAddr rfl rfl rfl (by assumption) (by omega) (by omega) rfl trivial ?_
                | refine x_nil ?_
                | refine cw_seq ?_
                | refine nw_seq ?_
                | refine nw_block ?_
                | refine cw_block ?_
                | refine cw_skip ?_
                | refine cw_region ?_
                | refine cw_exit rfl ?_
                | refine cw_true rfl ?_
                | refine cw_false rfl ?_)
              refine x_false 169 rfl (by simp) ?_
              repeat (first
                | refine x_move rfl rfl rfl trivial ?_
                | refine x_assign rfl rfl rfl trivial ?_
                | refine x_add rfl rfl rfl (wrap_i64 (by omega) (by omega)) rfl trivial ?_
                | refine x_sub_ rfl rfl rfl (wrap_i64 (by omega) (by omega)) rfl trivial ?_
                | refine x_sub_ rfl rfl rfl (wrap_u32 (by omega) (by omega)) rfl trivial ?_
                | refine x_add rfl rfl rfl (wrap_u32 (by omega) (by omega)) rfl trivial ?_
                | refine x_peqn rfl rfl rfl rfl trivial ?_
                | refine x_pnen rfl rfl rfl rfl trivial ?_
                | refine x_mul rfl rfl rfl (wrap_i64 (by omega) (by omega)) rfl trivial ?_
                | refine x_ibin rfl rfl rfl rfl rfl trivial ?_
                | refine x_neg_ rfl rfl (wrap_i64 (by omega) (by omega)) rfl trivial ?_
                | refine x_len rfl rfl (by assumption) rfl trivial ?_
                | refine x_pick_t rfl rfl rfl rfl trivial ?_
                | refine x_pick_f rfl rfl rfl rfl trivial ?_
                | refine x_not rfl rfl rfl trivial ?_
                | refine x_beq rfl rfl rfl rfl trivial ?_
                | refine x_bne rfl rfl rfl rfl trivial ?_
                | refine x_extract rfl rfl rfl rfl trivial ?_
                | refine x_nilCheck rfl rfl rfl trivial ?_
                | refine x_fieldAddr rfl rfl rfl rfl trivial ?_
                | refine x_skip trivial rfl rfl rfl ?_
                | refine x_indexAddr1 rfl rfl rfl (by assumption) (by omega) (by omega) rfl trivial ?_
                | refine x_indexAddr rfl rfl rfl (by assumption) (by omega) (by omega) rfl trivial ?_
                | refine x_nil ?_
                | refine cw_seq ?_
                | refine nw_seq ?_
                | refine nw_block ?_
                | refine cw_block ?_
                | refine cw_skip ?_
                | refine cw_region ?_
                | refine cw_exit rfl ?_
                | refine cw_true rfl ?_
                | refine cw_false rfl ?_)
              refine x_callq rfl rfl rfl ((span_Live hS7 (by omega) (by omega)).mono fun _ _ h => ⟨h.1.symm, h.2⟩) ?_
              repeat (first
                | refine x_move rfl rfl rfl trivial ?_
                | refine x_assign rfl rfl rfl trivial ?_
                | refine x_add rfl rfl rfl (wrap_i64 (by omega) (by omega)) rfl trivial ?_
                | refine x_sub_ rfl rfl rfl (wrap_i64 (by omega) (by omega)) rfl trivial ?_
                | refine x_sub_ rfl rfl rfl (wrap_u32 (by omega) (by omega)) rfl trivial ?_
                | refine x_add rfl rfl rfl (wrap_u32 (by omega) (by omega)) rfl trivial ?_
                | refine x_peqn rfl rfl rfl rfl trivial ?_
                | refine x_pnen rfl rfl rfl rfl trivial ?_
                | refine x_mul rfl rfl rfl (wrap_i64 (by omega) (by omega)) rfl trivial ?_
                | refine x_ibin rfl rfl rfl rfl rfl trivial ?_
                | refine x_neg_ rfl rfl (wrap_i64 (by omega) (by omega)) rfl trivial ?_
                | refine x_len rfl rfl (by assumption) rfl trivial ?_
                | refine x_pick_t rfl rfl rfl rfl trivial ?_
                | refine x_pick_f rfl rfl rfl rfl trivial ?_
                | refine x_not rfl rfl rfl trivial ?_
                | refine x_beq rfl rfl rfl rfl trivial ?_
                | refine x_bne rfl rfl rfl rfl trivial ?_
                | refine x_extract rfl rfl rfl rfl trivial ?_
                | refine x_nilCheck rfl rfl rfl trivial ?_
                | refine x_fieldAddr rfl rfl rfl rfl trivial ?_
                | refine x_skip trivial rfl rfl rfl ?_
                | refine x_indexAddr1 rfl rfl rfl (by assumption) (by omega) (by omega) rfl trivial ?_
                | refine x_indexAddr rfl rfl rfl (by assumption) (by omega) (by omega) rfl trivial ?_
                | refine x_nil ?_
                | refine cw_seq ?_
                | refine nw_seq ?_
                | refine nw_block ?_
                | refine cw_block ?_
                | refine cw_skip ?_
                | refine cw_region ?_
                | refine cw_exit rfl ?_
                | refine cw_true rfl ?_
                | refine cw_false rfl ?_)
              refine x_callq rfl rfl rfl ((ref6_Live hQ7 (by omega) (by omega)).mono fun _ _ h => ⟨h.1.symm, h.2⟩) ?_
              repeat (first
                | refine x_move rfl rfl rfl trivial ?_
                | refine x_assign rfl rfl rfl trivial ?_
                | refine x_add rfl rfl rfl (wrap_i64 (by omega) (by omega)) rfl trivial ?_
                | refine x_sub_ rfl rfl rfl (wrap_i64 (by omega) (by omega)) rfl trivial ?_
                | refine x_sub_ rfl rfl rfl (wrap_u32 (by omega) (by omega)) rfl trivial ?_
                | refine x_add rfl rfl rfl (wrap_u32 (by omega) (by omega)) rfl trivial ?_
                | refine x_peqn rfl rfl rfl rfl trivial ?_
                | refine x_pnen rfl rfl rfl rfl trivial ?_
                | refine x_mul rfl rfl rfl (wrap_i64 (by omega) (by omega)) rfl trivial ?_
                | refine x_ibin rfl rfl rfl rfl rfl trivial ?_
                | refine x_neg_ rfl rfl (wrap_i64 (by omega) (by omega)) rfl trivial ?_
                | refine x_len rfl rfl (by assumption) rfl trivial ?_
                | refine x_pick_t rfl rfl rfl rfl trivial ?_
                | refine x_pick_f rfl rfl rfl rfl trivial ?_
                | refine x_not rfl rfl rfl trivial ?_
                | refine x_beq rfl rfl rfl rfl trivial ?_
                | refine x_bne rfl rfl rfl rfl trivial ?_
                | refine x_extract rfl rfl rfl rfl trivial ?_
                | refine x_nilCheck rfl rfl rfl trivial ?_
                | refine x_fieldAddr rfl rfl rfl rfl trivial ?_
                | refine x_skip trivial rfl rfl rfl ?_
                | refine x_indexAddr1 rfl rfl rfl (by assumption) (by omega) (by omega) rfl trivial ?_
                | refine x_indexAddr rfl rfl rfl (by assumption) (by omega) (by omega) rfl trivial ?_
                | refine x_nil ?_
                | refine cw_seq ?_
                | refine nw_seq ?_
                | refine nw_block ?_
                | refine cw_block ?_
                | refine cw_skip ?_
                | refine cw_region ?_
                | refine cw_exit rfl ?_
                | refine cw_true rfl ?_
                | refine cw_false rfl ?_)
              refine cw_cond rfl (fun h => absurd h (by simp)) (fun _ => ?_)
              repeat (first
                | refine x_move rfl rfl rfl trivial ?_
                | refine x_assign rfl rfl rfl trivial ?_
                | refine x_add rfl rfl rfl (wrap_i64 (by omega) (by omega)) rfl trivial ?_
                | refine x_sub_ rfl rfl rfl (wrap_i64 (by omega) (by omega)) rfl trivial ?_
                | refine x_sub_ rfl rfl rfl (wrap_u32 (by omega) (by omega)) rfl trivial ?_
                | refine x_add rfl rfl rfl (wrap_u32 (by omega) (by omega)) rfl trivial ?_
                | refine x_peqn rfl rfl rfl rfl trivial ?_
                | refine x_pnen rfl rfl rfl rfl trivial ?_
                | refine x_mul rfl rfl rfl (wrap_i64 (by omega) (by omega)) rfl trivial ?_
                | refine x_ibin rfl rfl rfl rfl rfl trivial ?_
                | refine x_neg_ rfl rfl (wrap_i64 (by omega) (by omega)) rfl trivial ?_
                | refine x_len rfl rfl (by assumption) rfl trivial ?_
                | refine x_pick_t rfl rfl rfl rfl trivial ?_
                | refine x_pick_f rfl rfl rfl rfl trivial ?_
                | refine x_not rfl rfl rfl trivial ?_
                | refine x_beq rfl rfl rfl rfl trivial ?_
                | refine x_bne rfl rfl rfl rfl trivial ?_
                | refine x_extract rfl rfl rfl rfl trivial ?_
                | refine x_nilCheck rfl rfl rfl trivial ?_
                | refine x_fieldAddr rfl rfl rfl rfl trivial ?_
                | refine x_skip trivial rfl rfl rfl ?_
                | refine x_indexAddr1 rfl rfl rfl (by assumption) (by omega) (by omega) rfl trivial ?_
                | refine x_indexAddr rfl rfl rfl (by assumption) (by omega) (by omega) rfl trivial ?_
                | refine x_nil ?_
                | refine cw_seq ?_
                | refine nw_seq ?_
                | refine nw_block ?_
                | refine cw_block ?_
                | refine cw_skip ?_
                | refine cw_region ?_
                | refine cw_exit rfl ?_
                | refine cw_true rfl ?_
                | refine cw_false rfl ?_)
              refine x_call rfl rfl rfl trivial (law_OverBytes hu (by omega)) ?_
              rintro _ H8 ⟨rfl, hk8⟩
              refine ⟨trivial, ?_⟩
              obtain ⟨k8, s8, q8⟩ := k08 H8 hk8
              repeat (first
                | refine x_move rfl rfl rfl trivial ?_
                | refine x_assign rfl rfl rfl trivial ?_
                | refine x_add rfl rfl rfl (wrap_i64 (by omega) (by omega)) rfl trivial ?_
                | refine x_sub_ rfl rfl rfl (wrap_i64 (by omega) (by omega)) rfl trivial ?_
                | refine x_sub_ rfl rfl rfl (wrap_u32 (by omega) (by omega)) rfl trivial ?_
                | refine x_add rfl rfl rfl (wrap_u32 (by omega) (by omega)) rfl trivial ?_
                | refine x_peqn rfl rfl rfl rfl trivial ?_
                | refine x_pnen rfl rfl rfl rfl trivial ?_
                | refine x_mul rfl rfl rfl (wrap_i64 (by omega) (by omega)) rfl trivial ?_
                | refine x_ibin rfl rfl rfl rfl rfl trivial ?_
                | refine x_neg_ rfl rfl (wrap_i64 (by omega) (by omega)) rfl trivial ?_
                | refine x_len rfl rfl (by assumption) rfl trivial ?_
                | refine x_pick_t rfl rfl rfl rfl trivial ?_
                | refine x_pick_f rfl rfl rfl rfl trivial ?_
                | refine x_not rfl rfl rfl trivial ?_
                | refine x_beq rfl rfl rfl rfl trivial ?_
                | refine x_bne rfl rfl rfl rfl trivial ?_
                | refine x_extract rfl rfl rfl rfl trivial ?_
                | refine x_nilCheck rfl rfl rfl trivial ?_
                | refine x_fieldAddr rfl rfl rfl rfl trivial ?_
                | refine x_skip trivial rfl rfl rfl ?_
                | refine x_indexAddr1 rfl rfl rfl (by assumption) (by omega) (by omega) rfl trivial ?_
                | refine x_indexAddr rfl rfl rfl (by assumption) (by omega) (by omega) rfl trivial ?_
                | refine x_nil ?_
                | refine cw_seq ?_
                | refine nw_seq ?_
                | refine nw_block ?_
                | refine cw_block ?_
                | refine cw_skip ?_
                | refine cw_region ?_
                | refine cw_exit rfl ?_
                | refine cw_true rfl ?_
                | refine cw_false rfl ?_)
              refine nw_round (i + 1, p') (by repeat (first | exact True.intro | refine ⟨rfl, ?_⟩)) ⟨by show i + 1 ≤ _; omega, hw6, htx6, hbk6, hln6', k8, K', G', s8, q8, hKG6, hf6, hg6⟩ (by show acts.length - (i + 1) < acts.length - i; omega)
      · repeat (first
          | refine x_move rfl rfl rfl trivial ?_
          | refine x_assign rfl rfl rfl trivial ?_
          | refine x_add rfl rfl rfl (wrap_i64 (by omega) (by omega)) rfl trivial ?_
          | refine x_sub_ rfl rfl rfl (wrap_i64 (by omega) (by omega)) rfl trivial ?_
          | refine x_sub_ rfl rfl rfl (wrap_u32 (by omega) (by omega)) rfl trivial ?_
          | refine x_add rfl rfl rfl (wrap_u32 (by omega) (by omega)) rfl trivial ?_
          | refine x_peqn rfl rfl rfl rfl trivial ?_
          | refine x_pnen rfl rfl rfl rfl trivial ?_
          | refine x_mul rfl rfl rfl (wrap_i64 (by omega) (by omega)) rfl trivial ?_
          | refine x_ibin rfl rfl rfl rfl rfl trivial ?_
          | refine x_neg_ rfl rfl (wrap_i64 (by omega) (by omega)) rfl trivial ?_
          | refine x_len rfl rfl (by assumption) rfl trivial ?_
          | refine x_pick_t rfl rfl rfl rfl trivial ?_
          | refine x_pick_f rfl rfl rfl rfl trivial ?_
          | refine x_not rfl rfl rfl trivial ?_
          | refine x_beq rfl rfl rfl rfl trivial ?_
          | refine x_bne rfl rfl rfl rfl trivial ?_
          | refine x_extract rfl rfl rfl rfl trivial ?_
          | refine x_nilCheck rfl rfl rfl trivial ?_
          | refine x_fieldAddr rfl rfl rfl rfl trivial ?_
          | refine x_skip trivial rfl rfl rfl ?_
          | refine x_indexAddr1 rfl rfl rfl (by assumption) (by omega) (by omega) rfl trivial ?_
          | refine x_indexAddr rfl rfl rfl (by assumption) (by omega) (by omega) rfl trivial ?_
          | refine x_nil ?_
          | refine cw_seq ?_
          | refine nw_seq ?_
          | refine nw_block ?_
          | refine cw_block ?_
          | refine cw_skip ?_
          | refine cw_region ?_
          | refine cw_exit rfl ?_
          | refine cw_true rfl ?_
          | refine cw_false rfl ?_)
        refine x_call rfl rfl rfl trivial (awake6 _) ?_
        rintro _ Hz ⟨rfl, hkz⟩
        refine ⟨trivial, ?_⟩
        repeat (first
          | refine x_move rfl rfl rfl trivial ?_
          | refine x_assign rfl rfl rfl trivial ?_
          | refine x_add rfl rfl rfl (wrap_i64 (by omega) (by omega)) rfl trivial ?_
          | refine x_sub_ rfl rfl rfl (wrap_i64 (by omega) (by omega)) rfl trivial ?_
          | refine x_sub_ rfl rfl rfl (wrap_u32 (by omega) (by omega)) rfl trivial ?_
          | refine x_add rfl rfl rfl (wrap_u32 (by omega) (by omega)) rfl trivial ?_
          | refine x_peqn rfl rfl rfl rfl trivial ?_
          | refine x_pnen rfl rfl rfl rfl trivial ?_
          | refine x_mul rfl rfl rfl (wrap_i64 (by omega) (by omega)) rfl trivial ?_
          | refine x_ibin rfl rfl rfl rfl rfl trivial ?_
          | refine x_neg_ rfl rfl (wrap_i64 (by omega) (by omega)) rfl trivial ?_
          | refine x_len rfl rfl (by assumption) rfl trivial ?_
          | refine x_pick_t rfl rfl rfl rfl trivial ?_
          | refine x_pick_f rfl rfl rfl rfl trivial ?_
          | refine x_not rfl rfl rfl trivial ?_
          | refine x_beq rfl rfl rfl rfl trivial ?_
          | refine x_bne rfl rfl rfl rfl trivial ?_
          | refine x_extract rfl rfl rfl rfl trivial ?_
          | refine x_nilCheck rfl rfl rfl trivial ?_
          | refine x_fieldAddr rfl rfl rfl rfl trivial ?_
          | refine x_skip trivial rfl rfl rfl ?_
          | refine x_indexAddr1 rfl rfl rfl (by assumption) (by omega) (by omega) rfl trivial ?_
          | refine x_indexAddr rfl rfl rfl (by assumption) (by omega) (by omega) rfl trivial ?_
          | refine x_nil ?_
          | refine cw_seq ?_
          | refine nw_seq ?_
          | refine nw_block ?_
          | refine cw_block ?_
          | refine cw_skip ?_
          | refine cw_region ?_
          | refine cw_exit rfl ?_
          | refine cw_true rfl ?_
          | refine cw_false rfl ?_)
        exact cw_ret1 rfl rfl ⟨rfl, (hk3).non_trans hkz⟩

end Go.Proofs.Ytjknjlofkecflaa.X
