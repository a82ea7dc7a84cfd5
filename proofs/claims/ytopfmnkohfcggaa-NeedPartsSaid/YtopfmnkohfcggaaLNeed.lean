/- The statements on need: the walks. -/
import Derived.Test.YtopfmnkohfcggaaNeed
namespace Go.Proofs.Ytopfmnkohfcggaa.X
open Go Go.Proofs
set_option linter.unusedVariables false
set_option maxRecDepth 10000

theorem awake10 (H : Heap) : Ret Try.prog 11 [] H (Yes H) := by
  refine ret_of Try.func11 rfl rfl rfl rfl ?_
  intro w0
  repeat (first
    | refine x_move rfl rfl rfl trivial ?_
    | refine x_assign rfl rfl rfl trivial ?_
    | refine x_add rfl rfl rfl (wrap_i64 (by omega) (by omega)) rfl trivial ?_
    | refine x_sub_ rfl rfl rfl (wrap_i64 (by omega) (by omega)) rfl trivial ?_
    | refine x_mul rfl rfl rfl (wrap_i64 (by omega) (by omega)) rfl trivial ?_
    | refine x_ibin rfl rfl rfl rfl rfl trivial ?_
    | refine x_len rfl rfl (by assumption) rfl trivial ?_
    | refine x_pick_t rfl rfl rfl rfl trivial ?_
    | refine x_pick_f rfl rfl rfl rfl trivial ?_
    | refine x_not rfl rfl rfl trivial ?_
    | refine x_extract rfl rfl rfl rfl trivial ?_
    | refine x_nilCheck rfl rfl rfl trivial ?_
    | refine x_fieldAddr rfl rfl rfl rfl trivial ?_
    | refine x_skip trivial rfl rfl rfl ?_
    | refine x_indexAddr1 rfl rfl rfl (by assumption) (by omega) (by omega) rfl trivial ?_
    | refine x_nil ?_
    | refine cw_seq ?_
    | refine nw_seq ?_
    | refine nw_block ?_
    | refine cw_block ?_
    | refine cw_skip ?_
    | refine cw_region ?_
    | refine cw_exit rfl ?_
    | refine cw_true rfl ?_
    | refine cw_false rfl ?_)
  refine x_call rfl rfl rfl trivial (need_Put 2 3 H) ?_
  rintro _ _ ⟨rfl, rfl⟩
  refine ⟨trivial, ?_⟩
  repeat (first
    | refine x_move rfl rfl rfl trivial ?_
    | refine x_assign rfl rfl rfl trivial ?_
    | refine x_add rfl rfl rfl (wrap_i64 (by omega) (by omega)) rfl trivial ?_
    | refine x_sub_ rfl rfl rfl (wrap_i64 (by omega) (by omega)) rfl trivial ?_
    | refine x_mul rfl rfl rfl (wrap_i64 (by omega) (by omega)) rfl trivial ?_
    | refine x_ibin rfl rfl rfl rfl rfl trivial ?_
    | refine x_len rfl rfl (by assumption) rfl trivial ?_
    | refine x_pick_t rfl rfl rfl rfl trivial ?_
    | refine x_pick_f rfl rfl rfl rfl trivial ?_
    | refine x_not rfl rfl rfl trivial ?_
    | refine x_extract rfl rfl rfl rfl trivial ?_
    | refine x_nilCheck rfl rfl rfl trivial ?_
    | refine x_fieldAddr rfl rfl rfl rfl trivial ?_
    | refine x_skip trivial rfl rfl rfl ?_
    | refine x_indexAddr1 rfl rfl rfl (by assumption) (by omega) (by omega) rfl trivial ?_
    | refine x_nil ?_
    | refine cw_seq ?_
    | refine nw_seq ?_
    | refine nw_block ?_
    | refine cw_block ?_
    | refine cw_skip ?_
    | refine cw_region ?_
    | refine cw_exit rfl ?_
    | refine cw_true rfl ?_
    | refine cw_false rfl ?_)
  refine x_true 3 rfl (by decide) ?_
  repeat (first
    | refine x_move rfl rfl rfl trivial ?_
    | refine x_assign rfl rfl rfl trivial ?_
    | refine x_add rfl rfl rfl (wrap_i64 (by omega) (by omega)) rfl trivial ?_
    | refine x_sub_ rfl rfl rfl (wrap_i64 (by omega) (by omega)) rfl trivial ?_
    | refine x_mul rfl rfl rfl (wrap_i64 (by omega) (by omega)) rfl trivial ?_
    | refine x_ibin rfl rfl rfl rfl rfl trivial ?_
    | refine x_len rfl rfl (by assumption) rfl trivial ?_
    | refine x_pick_t rfl rfl rfl rfl trivial ?_
    | refine x_pick_f rfl rfl rfl rfl trivial ?_
    | refine x_not rfl rfl rfl trivial ?_
    | refine x_extract rfl rfl rfl rfl trivial ?_
    | refine x_nilCheck rfl rfl rfl trivial ?_
    | refine x_fieldAddr rfl rfl rfl rfl trivial ?_
    | refine x_skip trivial rfl rfl rfl ?_
    | refine x_indexAddr1 rfl rfl rfl (by assumption) (by omega) (by omega) rfl trivial ?_
    | refine x_nil ?_
    | refine cw_seq ?_
    | refine nw_seq ?_
    | refine nw_block ?_
    | refine cw_block ?_
    | refine cw_skip ?_
    | refine cw_region ?_
    | refine cw_exit rfl ?_
    | refine cw_true rfl ?_
    | refine cw_false rfl ?_)
  refine x_call rfl rfl rfl trivial (need_Put 1 9 H) ?_
  rintro _ _ ⟨rfl, rfl⟩
  refine ⟨trivial, ?_⟩
  repeat (first
    | refine x_move rfl rfl rfl trivial ?_
    | refine x_assign rfl rfl rfl trivial ?_
    | refine x_add rfl rfl rfl (wrap_i64 (by omega) (by omega)) rfl trivial ?_
    | refine x_sub_ rfl rfl rfl (wrap_i64 (by omega) (by omega)) rfl trivial ?_
    | refine x_mul rfl rfl rfl (wrap_i64 (by omega) (by omega)) rfl trivial ?_
    | refine x_ibin rfl rfl rfl rfl rfl trivial ?_
    | refine x_len rfl rfl (by assumption) rfl trivial ?_
    | refine x_pick_t rfl rfl rfl rfl trivial ?_
    | refine x_pick_f rfl rfl rfl rfl trivial ?_
    | refine x_not rfl rfl rfl trivial ?_
    | refine x_extract rfl rfl rfl rfl trivial ?_
    | refine x_nilCheck rfl rfl rfl trivial ?_
    | refine x_fieldAddr rfl rfl rfl rfl trivial ?_
    | refine x_skip trivial rfl rfl rfl ?_
    | refine x_indexAddr1 rfl rfl rfl (by assumption) (by omega) (by omega) rfl trivial ?_
    | refine x_nil ?_
    | refine cw_seq ?_
    | refine nw_seq ?_
    | refine nw_block ?_
    | refine cw_block ?_
    | refine cw_skip ?_
    | refine cw_region ?_
    | refine cw_exit rfl ?_
    | refine cw_true rfl ?_
    | refine cw_false rfl ?_)
  refine x_true 7 rfl (by decide) ?_
  repeat (first
    | refine x_move rfl rfl rfl trivial ?_
    | refine x_assign rfl rfl rfl trivial ?_
    | refine x_add rfl rfl rfl (wrap_i64 (by omega) (by omega)) rfl trivial ?_
    | refine x_sub_ rfl rfl rfl (wrap_i64 (by omega) (by omega)) rfl trivial ?_
    | refine x_mul rfl rfl rfl (wrap_i64 (by omega) (by omega)) rfl trivial ?_
    | refine x_ibin rfl rfl rfl rfl rfl trivial ?_
    | refine x_len rfl rfl (by assumption) rfl trivial ?_
    | refine x_pick_t rfl rfl rfl rfl trivial ?_
    | refine x_pick_f rfl rfl rfl rfl trivial ?_
    | refine x_not rfl rfl rfl trivial ?_
    | refine x_extract rfl rfl rfl rfl trivial ?_
    | refine x_nilCheck rfl rfl rfl trivial ?_
    | refine x_fieldAddr rfl rfl rfl rfl trivial ?_
    | refine x_skip trivial rfl rfl rfl ?_
    | refine x_indexAddr1 rfl rfl rfl (by assumption) (by omega) (by omega) rfl trivial ?_
    | refine x_nil ?_
    | refine cw_seq ?_
    | refine nw_seq ?_
    | refine nw_block ?_
    | refine cw_block ?_
    | refine cw_skip ?_
    | refine cw_region ?_
    | refine cw_exit rfl ?_
    | refine cw_true rfl ?_
    | refine cw_false rfl ?_)
  refine x_call rfl rfl rfl trivial (need_Put 9 1 H) ?_
  rintro _ _ ⟨rfl, rfl⟩
  refine ⟨trivial, ?_⟩
  repeat (first
    | refine x_move rfl rfl rfl trivial ?_
    | refine x_assign rfl rfl rfl trivial ?_
    | refine x_add rfl rfl rfl (wrap_i64 (by omega) (by omega)) rfl trivial ?_
    | refine x_sub_ rfl rfl rfl (wrap_i64 (by omega) (by omega)) rfl trivial ?_
    | refine x_mul rfl rfl rfl (wrap_i64 (by omega) (by omega)) rfl trivial ?_
    | refine x_ibin rfl rfl rfl rfl rfl trivial ?_
    | refine x_len rfl rfl (by assumption) rfl trivial ?_
    | refine x_pick_t rfl rfl rfl rfl trivial ?_
    | refine x_pick_f rfl rfl rfl rfl trivial ?_
    | refine x_not rfl rfl rfl trivial ?_
    | refine x_extract rfl rfl rfl rfl trivial ?_
    | refine x_nilCheck rfl rfl rfl trivial ?_
    | refine x_fieldAddr rfl rfl rfl rfl trivial ?_
    | refine x_skip trivial rfl rfl rfl ?_
    | refine x_indexAddr1 rfl rfl rfl (by assumption) (by omega) (by omega) rfl trivial ?_
    | refine x_nil ?_
    | refine cw_seq ?_
    | refine nw_seq ?_
    | refine nw_block ?_
    | refine cw_block ?_
    | refine cw_skip ?_
    | refine cw_region ?_
    | refine cw_exit rfl ?_
    | refine cw_true rfl ?_
    | refine cw_false rfl ?_)
  refine x_true 11 rfl (by decide) ?_
  repeat (first
    | refine x_move rfl rfl rfl trivial ?_
    | refine x_assign rfl rfl rfl trivial ?_
    | refine x_add rfl rfl rfl (wrap_i64 (by omega) (by omega)) rfl trivial ?_
    | refine x_sub_ rfl rfl rfl (wrap_i64 (by omega) (by omega)) rfl trivial ?_
    | refine x_mul rfl rfl rfl (wrap_i64 (by omega) (by omega)) rfl trivial ?_
    | refine x_ibin rfl rfl rfl rfl rfl trivial ?_
    | refine x_len rfl rfl (by assumption) rfl trivial ?_
    | refine x_pick_t rfl rfl rfl rfl trivial ?_
    | refine x_pick_f rfl rfl rfl rfl trivial ?_
    | refine x_not rfl rfl rfl trivial ?_
    | refine x_extract rfl rfl rfl rfl trivial ?_
    | refine x_nilCheck rfl rfl rfl trivial ?_
    | refine x_fieldAddr rfl rfl rfl rfl trivial ?_
    | refine x_skip trivial rfl rfl rfl ?_
    | refine x_indexAddr1 rfl rfl rfl (by assumption) (by omega) (by omega) rfl trivial ?_
    | refine x_nil ?_
    | refine cw_seq ?_
    | refine nw_seq ?_
    | refine nw_block ?_
    | refine cw_block ?_
    | refine cw_skip ?_
    | refine cw_region ?_
    | refine cw_exit rfl ?_
    | refine cw_true rfl ?_
    | refine cw_false rfl ?_)
  refine x_buildSlice rfl rfl rfl rfl (by omega) (by simp [oneC, Value.oneCell']) rfl trivial ?_
  intro H1 hn
  refine ⟨trivial, ?_⟩
  have hI : Is H1 (.slice (some ⟨H.size, 0, none⟩) 2 2) [1, 2] := ⟨isSl_some (by decide) (by decide), hn.blk.cels 0 2 (by decide)⟩
  repeat (first
    | refine x_move rfl rfl rfl trivial ?_
    | refine x_assign rfl rfl rfl trivial ?_
    | refine x_add rfl rfl rfl (wrap_i64 (by omega) (by omega)) rfl trivial ?_
    | refine x_sub_ rfl rfl rfl (wrap_i64 (by omega) (by omega)) rfl trivial ?_
    | refine x_mul rfl rfl rfl (wrap_i64 (by omega) (by omega)) rfl trivial ?_
    | refine x_ibin rfl rfl rfl rfl rfl trivial ?_
    | refine x_len rfl rfl (by assumption) rfl trivial ?_
    | refine x_pick_t rfl rfl rfl rfl trivial ?_
    | refine x_pick_f rfl rfl rfl rfl trivial ?_
    | refine x_not rfl rfl rfl trivial ?_
    | refine x_extract rfl rfl rfl rfl trivial ?_
    | refine x_nilCheck rfl rfl rfl trivial ?_
    | refine x_fieldAddr rfl rfl rfl rfl trivial ?_
    | refine x_skip trivial rfl rfl rfl ?_
    | refine x_indexAddr1 rfl rfl rfl (by assumption) (by omega) (by omega) rfl trivial ?_
    | refine x_nil ?_
    | refine cw_seq ?_
    | refine nw_seq ?_
    | refine nw_block ?_
    | refine cw_block ?_
    | refine cw_skip ?_
    | refine cw_region ?_
    | refine cw_exit rfl ?_
    | refine cw_true rfl ?_
    | refine cw_false rfl ?_)
  refine x_call rfl rfl rfl trivial (need_Build 3 hI (by decide)) ?_
  rintro _ _ ⟨rfl, rfl⟩
  refine ⟨trivial, ?_⟩
  repeat (first
    | refine x_move rfl rfl rfl trivial ?_
    | refine x_assign rfl rfl rfl trivial ?_
    | refine x_add rfl rfl rfl (wrap_i64 (by omega) (by omega)) rfl trivial ?_
    | refine x_sub_ rfl rfl rfl (wrap_i64 (by omega) (by omega)) rfl trivial ?_
    | refine x_mul rfl rfl rfl (wrap_i64 (by omega) (by omega)) rfl trivial ?_
    | refine x_ibin rfl rfl rfl rfl rfl trivial ?_
    | refine x_len rfl rfl (by assumption) rfl trivial ?_
    | refine x_pick_t rfl rfl rfl rfl trivial ?_
    | refine x_pick_f rfl rfl rfl rfl trivial ?_
    | refine x_not rfl rfl rfl trivial ?_
    | refine x_extract rfl rfl rfl rfl trivial ?_
    | refine x_nilCheck rfl rfl rfl trivial ?_
    | refine x_fieldAddr rfl rfl rfl rfl trivial ?_
    | refine x_skip trivial rfl rfl rfl ?_
    | refine x_indexAddr1 rfl rfl rfl (by assumption) (by omega) (by omega) rfl trivial ?_
    | refine x_nil ?_
    | refine cw_seq ?_
    | refine nw_seq ?_
    | refine nw_block ?_
    | refine cw_block ?_
    | refine cw_skip ?_
    | refine cw_region ?_
    | refine cw_exit rfl ?_
    | refine cw_true rfl ?_
    | refine cw_false rfl ?_)
  refine x_true 16 rfl (by decide) ?_
  repeat (first
    | refine x_move rfl rfl rfl trivial ?_
    | refine x_assign rfl rfl rfl trivial ?_
    | refine x_add rfl rfl rfl (wrap_i64 (by omega) (by omega)) rfl trivial ?_
    | refine x_sub_ rfl rfl rfl (wrap_i64 (by omega) (by omega)) rfl trivial ?_
    | refine x_mul rfl rfl rfl (wrap_i64 (by omega) (by omega)) rfl trivial ?_
    | refine x_ibin rfl rfl rfl rfl rfl trivial ?_
    | refine x_len rfl rfl (by assumption) rfl trivial ?_
    | refine x_pick_t rfl rfl rfl rfl trivial ?_
    | refine x_pick_f rfl rfl rfl rfl trivial ?_
    | refine x_not rfl rfl rfl trivial ?_
    | refine x_extract rfl rfl rfl rfl trivial ?_
    | refine x_nilCheck rfl rfl rfl trivial ?_
    | refine x_fieldAddr rfl rfl rfl rfl trivial ?_
    | refine x_skip trivial rfl rfl rfl ?_
    | refine x_indexAddr1 rfl rfl rfl (by assumption) (by omega) (by omega) rfl trivial ?_
    | refine x_nil ?_
    | refine cw_seq ?_
    | refine nw_seq ?_
    | refine nw_block ?_
    | refine cw_block ?_
    | refine cw_skip ?_
    | refine cw_region ?_
    | refine cw_exit rfl ?_
    | refine cw_true rfl ?_
    | refine cw_false rfl ?_)
  refine x_call rfl rfl rfl trivial (need_Build 4 (l := []) ⟨isSl_nil, Cels.nil _ _ _⟩ (by decide)) ?_
  rintro _ _ ⟨rfl, rfl⟩
  refine ⟨trivial, ?_⟩
  repeat (first
    | refine x_move rfl rfl rfl trivial ?_
    | refine x_assign rfl rfl rfl trivial ?_
    | refine x_add rfl rfl rfl (wrap_i64 (by omega) (by omega)) rfl trivial ?_
    | refine x_sub_ rfl rfl rfl (wrap_i64 (by omega) (by omega)) rfl trivial ?_
    | refine x_mul rfl rfl rfl (wrap_i64 (by omega) (by omega)) rfl trivial ?_
    | refine x_ibin rfl rfl rfl rfl rfl trivial ?_
    | refine x_len rfl rfl (by assumption) rfl trivial ?_
    | refine x_pick_t rfl rfl rfl rfl trivial ?_
    | refine x_pick_f rfl rfl rfl rfl trivial ?_
    | refine x_not rfl rfl rfl trivial ?_
    | refine x_extract rfl rfl rfl rfl trivial ?_
    | refine x_nilCheck rfl rfl rfl trivial ?_
    | refine x_fieldAddr rfl rfl rfl rfl trivial ?_
    | refine x_skip trivial rfl rfl rfl ?_
    | refine x_indexAddr1 rfl rfl rfl (by assumption) (by omega) (by omega) rfl trivial ?_
    | refine x_nil ?_
    | refine cw_seq ?_
    | refine nw_seq ?_
    | refine nw_block ?_
    | refine cw_block ?_
    | refine cw_skip ?_
    | refine cw_region ?_
    | refine cw_exit rfl ?_
    | refine cw_true rfl ?_
    | refine cw_false rfl ?_)
  exact cw_ret1 rfl rfl ⟨rfl, hn.keep⟩

theorem needPut_mono (tag a : Int) (h0 : 0 ≤ a) (h1 : a < 65535) : needPut tag a ≤ needPut tag (a + 1) := by
  have e1 : ¬ (a < 0 ∨ a > 65535) := by omega
  have e2 : ¬ (a + 1 < 0 ∨ a + 1 > 65535) := by omega
  unfold needPut
  simp only [if_neg e1, if_neg e2]
  repeat' split
  all_goals omega

theorem walk_NeedTells (tag long more : Int) (ht : -9223372036854775808 ≤ tag ∧ tag ≤ 9223372036854775807) (hlo : -9223372036854775808 ≤ long ∧ long ≤ 9223372036854775807) {v : Value} {l : List Int} {H : Heap} (hV : Is H v l) :
    Ret Try.prog 3 [.int .i64 tag, v, .int .i64 long, .int .i64 more] H (Yes H) := by
  have sV := hV.sl
  have cV := sV.cap
  refine ret_of Try.func3 rfl rfl rfl rfl ?_
  intro w0
  repeat (first
    | refine x_move rfl rfl rfl trivial ?_
    | refine x_assign rfl rfl rfl trivial ?_
    | refine x_add rfl rfl rfl (wrap_i64 (by omega) (by omega)) rfl trivial ?_
    | refine x_sub_ rfl rfl rfl (wrap_i64 (by omega) (by omega)) rfl trivial ?_
    | refine x_mul rfl rfl rfl (wrap_i64 (by omega) (by omega)) rfl trivial ?_
    | refine x_ibin rfl rfl rfl rfl rfl trivial ?_
    | refine x_len rfl rfl (by assumption) rfl trivial ?_
    | refine x_pick_t rfl rfl rfl rfl trivial ?_
    | refine x_pick_f rfl rfl rfl rfl trivial ?_
    | refine x_not rfl rfl rfl trivial ?_
    | refine x_extract rfl rfl rfl rfl trivial ?_
    | refine x_nilCheck rfl rfl rfl trivial ?_
    | refine x_fieldAddr rfl rfl rfl rfl trivial ?_
    | refine x_skip trivial rfl rfl rfl ?_
    | refine x_indexAddr1 rfl rfl rfl (by assumption) (by omega) (by omega) rfl trivial ?_
    | refine x_nil ?_
    | refine cw_seq ?_
    | refine nw_seq ?_
    | refine nw_block ?_
    | refine cw_block ?_
    | refine cw_skip ?_
    | refine cw_region ?_
    | refine cw_exit rfl ?_
    | refine cw_true rfl ?_
    | refine cw_false rfl ?_)
  refine cw_cond rfl (fun h1 => ?_) (fun h1 => ?_) <;> (try simp at h1)
  · repeat (first
      | refine x_move rfl rfl rfl trivial ?_
      | refine x_assign rfl rfl rfl trivial ?_
      | refine x_add rfl rfl rfl (wrap_i64 (by omega) (by omega)) rfl trivial ?_
      | refine x_sub_ rfl rfl rfl (wrap_i64 (by omega) (by omega)) rfl trivial ?_
      | refine x_mul rfl rfl rfl (wrap_i64 (by omega) (by omega)) rfl trivial ?_
      | refine x_ibin rfl rfl rfl rfl rfl trivial ?_
      | refine x_len rfl rfl (by assumption) rfl trivial ?_
      | refine x_pick_t rfl rfl rfl rfl trivial ?_
      | refine x_pick_f rfl rfl rfl rfl trivial ?_
      | refine x_not rfl rfl rfl trivial ?_
      | refine x_extract rfl rfl rfl rfl trivial ?_
      | refine x_nilCheck rfl rfl rfl trivial ?_
      | refine x_fieldAddr rfl rfl rfl rfl trivial ?_
      | refine x_skip trivial rfl rfl rfl ?_
      | refine x_indexAddr1 rfl rfl rfl (by assumption) (by omega) (by omega) rfl trivial ?_
      | refine x_nil ?_
      | refine cw_seq ?_
      | refine nw_seq ?_
      | refine nw_block ?_
      | refine cw_block ?_
      | refine cw_skip ?_
      | refine cw_region ?_
      | refine cw_exit rfl ?_
      | refine cw_true rfl ?_
      | refine cw_false rfl ?_)
    refine x_call rfl rfl rfl trivial (awake10 H) ?_
    rintro _ H1 ⟨rfl, hk⟩
    refine ⟨trivial, ?_⟩
    repeat (first
      | refine x_move rfl rfl rfl trivial ?_
      | refine x_assign rfl rfl rfl trivial ?_
      | refine x_add rfl rfl rfl (wrap_i64 (by omega) (by omega)) rfl trivial ?_
      | refine x_sub_ rfl rfl rfl (wrap_i64 (by omega) (by omega)) rfl trivial ?_
      | refine x_mul rfl rfl rfl (wrap_i64 (by omega) (by omega)) rfl trivial ?_
      | refine x_ibin rfl rfl rfl rfl rfl trivial ?_
      | refine x_len rfl rfl (by assumption) rfl trivial ?_
      | refine x_pick_t rfl rfl rfl rfl trivial ?_
      | refine x_pick_f rfl rfl rfl rfl trivial ?_
      | refine x_not rfl rfl rfl trivial ?_
      | refine x_extract rfl rfl rfl rfl trivial ?_
      | refine x_nilCheck rfl rfl rfl trivial ?_
      | refine x_fieldAddr rfl rfl rfl rfl trivial ?_
      | refine x_skip trivial rfl rfl rfl ?_
      | refine x_indexAddr1 rfl rfl rfl (by assumption) (by omega) (by omega) rfl trivial ?_
      | refine x_nil ?_
      | refine cw_seq ?_
      | refine nw_seq ?_
      | refine nw_block ?_
      | refine cw_block ?_
      | refine cw_skip ?_
      | refine cw_region ?_
      | refine cw_exit rfl ?_
      | refine cw_true rfl ?_
      | refine cw_false rfl ?_)
    exact cw_ret1 rfl rfl ⟨rfl, hk⟩
  · repeat (first
      | refine x_move rfl rfl rfl trivial ?_
      | refine x_assign rfl rfl rfl trivial ?_
      | refine x_add rfl rfl rfl (wrap_i64 (by omega) (by omega)) rfl trivial ?_
      | refine x_sub_ rfl rfl rfl (wrap_i64 (by omega) (by omega)) rfl trivial ?_
      | refine x_mul rfl rfl rfl (wrap_i64 (by omega) (by omega)) rfl trivial ?_
      | refine x_ibin rfl rfl rfl rfl rfl trivial ?_
      | refine x_len rfl rfl (by assumption) rfl trivial ?_
      | refine x_pick_t rfl rfl rfl rfl trivial ?_
      | refine x_pick_f rfl rfl rfl rfl trivial ?_
      | refine x_not rfl rfl rfl trivial ?_
      | refine x_extract rfl rfl rfl rfl trivial ?_
      | refine x_nilCheck rfl rfl rfl trivial ?_
      | refine x_fieldAddr rfl rfl rfl rfl trivial ?_
      | refine x_skip trivial rfl rfl rfl ?_
      | refine x_indexAddr1 rfl rfl rfl (by assumption) (by omega) (by omega) rfl trivial ?_
      | refine x_nil ?_
      | refine cw_seq ?_
      | refine nw_seq ?_
      | refine nw_block ?_
      | refine cw_block ?_
      | refine cw_skip ?_
      | refine cw_region ?_
      | refine cw_exit rfl ?_
      | refine cw_true rfl ?_
      | refine cw_false rfl ?_)
    refine cw_loop (fun j : Nat => [(0, .int .i64 tag), (1, v), (2, .int .i64 long), (3, .int .i64 more), (9, .int .i64 (needSum tag (l.take j))), (10, .int .i64 j)]) (fun j H' => H = H' ∧ j ≤ l.length) (fun j => l.length - j) 0 ⟨rfl, rfl, rfl, rfl, rfl, rfl, trivial⟩ ⟨rfl, by omega⟩ ?_
    rintro j _ ⟨rfl, hj⟩
    have hb := needSum_bd tag (l.take j)
    have hlt : (l.take j).length ≤ 40 := by simp; omega
    repeat (first
      | refine x_move rfl rfl rfl trivial ?_
      | refine x_assign rfl rfl rfl trivial ?_
      | refine x_add rfl rfl rfl (wrap_i64 (by omega) (by omega)) rfl trivial ?_
      | refine x_sub_ rfl rfl rfl (wrap_i64 (by omega) (by omega)) rfl trivial ?_
      | refine x_mul rfl rfl rfl (wrap_i64 (by omega) (by omega)) rfl trivial ?_
      | refine x_ibin rfl rfl rfl rfl rfl trivial ?_
      | refine x_len rfl rfl (by assumption) rfl trivial ?_
      | refine x_pick_t rfl rfl rfl rfl trivial ?_
      | refine x_pick_f rfl rfl rfl rfl trivial ?_
      | refine x_not rfl rfl rfl trivial ?_
      | refine x_extract rfl rfl rfl rfl trivial ?_
      | refine x_nilCheck rfl rfl rfl trivial ?_
      | refine x_fieldAddr rfl rfl rfl rfl trivial ?_
      | refine x_skip trivial rfl rfl rfl ?_
      | refine x_indexAddr1 rfl rfl rfl (by assumption) (by omega) (by omega) rfl trivial ?_
      | refine x_nil ?_
      | refine cw_seq ?_
      | refine nw_seq ?_
      | refine nw_block ?_
      | refine cw_block ?_
      | refine cw_skip ?_
      | refine cw_region ?_
      | refine cw_exit rfl ?_
      | refine cw_true rfl ?_
      | refine cw_false rfl ?_)
    refine cw_cond rfl (fun h2 => ?_) (fun h2 => ?_) <;> (try simp at h2)
    · obtain ⟨x, hx⟩ : ∃ x, l[j]? = some x := ⟨_, List.getElem?_eq_getElem h2⟩
      have hp := needPut_bd tag x
      repeat (first
        | refine x_move rfl rfl rfl trivial ?_
        | refine x_assign rfl rfl rfl trivial ?_
        | refine x_add rfl rfl rfl (wrap_i64 (by omega) (by omega)) rfl trivial ?_
        | refine x_sub_ rfl rfl rfl (wrap_i64 (by omega) (by omega)) rfl trivial ?_
        | refine x_mul rfl rfl rfl (wrap_i64 (by omega) (by omega)) rfl trivial ?_
        | refine x_ibin rfl rfl rfl rfl rfl trivial ?_
        | refine x_len rfl rfl (by assumption) rfl trivial ?_
        | refine x_pick_t rfl rfl rfl rfl trivial ?_
        | refine x_pick_f rfl rfl rfl rfl trivial ?_
        | refine x_not rfl rfl rfl trivial ?_
        | refine x_extract rfl rfl rfl rfl trivial ?_
        | refine x_nilCheck rfl rfl rfl trivial ?_
        | refine x_fieldAddr rfl rfl rfl rfl trivial ?_
        | refine x_skip trivial rfl rfl rfl ?_
        | refine x_indexAddr1 rfl rfl rfl (by assumption) (by omega) (by omega) rfl trivial ?_
        | refine x_nil ?_
        | refine cw_seq ?_
        | refine nw_seq ?_
        | refine nw_block ?_
        | refine cw_block ?_
        | refine cw_skip ?_
        | refine cw_region ?_
        | refine cw_exit rfl ?_
        | refine cw_true rfl ?_
        | refine cw_false rfl ?_)
      refine x_load rfl rfl (hpmt (hV.get j x hx)) rfl trivial ?_
      repeat (first
        | refine x_move rfl rfl rfl trivial ?_
        | refine x_assign rfl rfl rfl trivial ?_
        | refine x_add rfl rfl rfl (wrap_i64 (by omega) (by omega)) rfl trivial ?_
        | refine x_sub_ rfl rfl rfl (wrap_i64 (by omega) (by omega)) rfl trivial ?_
        | refine x_mul rfl rfl rfl (wrap_i64 (by omega) (by omega)) rfl trivial ?_
        | refine x_ibin rfl rfl rfl rfl rfl trivial ?_
        | refine x_len rfl rfl (by assumption) rfl trivial ?_
        | refine x_pick_t rfl rfl rfl rfl trivial ?_
        | refine x_pick_f rfl rfl rfl rfl trivial ?_
        | refine x_not rfl rfl rfl trivial ?_
        | refine x_extract rfl rfl rfl rfl trivial ?_
        | refine x_nilCheck rfl rfl rfl trivial ?_
        | refine x_fieldAddr rfl rfl rfl rfl trivial ?_
        | refine x_skip trivial rfl rfl rfl ?_
        | refine x_indexAddr1 rfl rfl rfl (by assumption) (by omega) (by omega) rfl trivial ?_
        | refine x_nil ?_
        | refine cw_seq ?_
        | refine nw_seq ?_
        | refine nw_block ?_
        | refine cw_block ?_
        | refine cw_skip ?_
        | refine cw_region ?_
        | refine cw_exit rfl ?_
        | refine cw_true rfl ?_
        | refine cw_false rfl ?_)
      refine x_call rfl rfl rfl trivial (ref_Put tag x H) ?_
      rintro _ _ ⟨rfl, rfl⟩
      refine ⟨trivial, ?_⟩
      repeat (first
        | refine x_move rfl rfl rfl trivial ?_
        | refine x_assign rfl rfl rfl trivial ?_
        | refine x_add rfl rfl rfl (wrap_i64 (by omega) (by omega)) rfl trivial ?_
        | refine x_sub_ rfl rfl rfl (wrap_i64 (by omega) (by omega)) rfl trivial ?_
        | refine x_mul rfl rfl rfl (wrap_i64 (by omega) (by omega)) rfl trivial ?_
        | refine x_ibin rfl rfl rfl rfl rfl trivial ?_
        | refine x_len rfl rfl (by assumption) rfl trivial ?_
        | refine x_pick_t rfl rfl rfl rfl trivial ?_
        | refine x_pick_f rfl rfl rfl rfl trivial ?_
        | refine x_not rfl rfl rfl trivial ?_
        | refine x_extract rfl rfl rfl rfl trivial ?_
        | refine x_nilCheck rfl rfl rfl trivial ?_
        | refine x_fieldAddr rfl rfl rfl rfl trivial ?_
        | refine x_skip trivial rfl rfl rfl ?_
        | refine x_indexAddr1 rfl rfl rfl (by assumption) (by omega) (by omega) rfl trivial ?_
        | refine x_nil ?_
        | refine cw_seq ?_
        | refine nw_seq ?_
        | refine nw_block ?_
        | refine cw_block ?_
        | refine cw_skip ?_
        | refine cw_region ?_
        | refine cw_exit rfl ?_
        | refine cw_true rfl ?_
        | refine cw_false rfl ?_)
      refine nw_round (j + 1) ⟨rfl, rfl, rfl, rfl, ?_, rfl, trivial⟩ ⟨rfl, by omega⟩ (by omega)
      rw [needSum_take hx]
      rfl
    · have hje : j = l.length := by omega
      subst hje
      rw [List.take_length] at hb ⊢
      repeat (first
        | refine x_move rfl rfl rfl trivial ?_
        | refine x_assign rfl rfl rfl trivial ?_
        | refine x_add rfl rfl rfl (wrap_i64 (by omega) (by omega)) rfl trivial ?_
        | refine x_sub_ rfl rfl rfl (wrap_i64 (by omega) (by omega)) rfl trivial ?_
        | refine x_mul rfl rfl rfl (wrap_i64 (by omega) (by omega)) rfl trivial ?_
        | refine x_ibin rfl rfl rfl rfl rfl trivial ?_
        | refine x_len rfl rfl (by assumption) rfl trivial ?_
        | refine x_pick_t rfl rfl rfl rfl trivial ?_
        | refine x_pick_f rfl rfl rfl rfl trivial ?_
        | refine x_not rfl rfl rfl trivial ?_
        | refine x_extract rfl rfl rfl rfl trivial ?_
        | refine x_nilCheck rfl rfl rfl trivial ?_
        | refine x_fieldAddr rfl rfl rfl rfl trivial ?_
        | refine x_skip trivial rfl rfl rfl ?_
        | refine x_indexAddr1 rfl rfl rfl (by assumption) (by omega) (by omega) rfl trivial ?_
        | refine x_nil ?_
        | refine cw_seq ?_
        | refine nw_seq ?_
        | refine nw_block ?_
        | refine cw_block ?_
        | refine cw_skip ?_
        | refine cw_region ?_
        | refine cw_exit rfl ?_
        | refine cw_true rfl ?_
        | refine cw_false rfl ?_)
      refine x_call rfl rfl rfl trivial (law_Low long 65535 hlo (by omega) H) ?_
      rintro _ _ ⟨rfl, a, rfl, ha⟩
      refine ⟨trivial, ?_⟩
      repeat (first
        | refine x_move rfl rfl rfl trivial ?_
        | refine x_assign rfl rfl rfl trivial ?_
        | refine x_add rfl rfl rfl (wrap_i64 (by omega) (by omega)) rfl trivial ?_
        | refine x_sub_ rfl rfl rfl (wrap_i64 (by omega) (by omega)) rfl trivial ?_
        | refine x_mul rfl rfl rfl (wrap_i64 (by omega) (by omega)) rfl trivial ?_
        | refine x_ibin rfl rfl rfl rfl rfl trivial ?_
        | refine x_len rfl rfl (by assumption) rfl trivial ?_
        | refine x_pick_t rfl rfl rfl rfl trivial ?_
        | refine x_pick_f rfl rfl rfl rfl trivial ?_
        | refine x_not rfl rfl rfl trivial ?_
        | refine x_extract rfl rfl rfl rfl trivial ?_
        | refine x_nilCheck rfl rfl rfl trivial ?_
        | refine x_fieldAddr rfl rfl rfl rfl trivial ?_
        | refine x_skip trivial rfl rfl rfl ?_
        | refine x_indexAddr1 rfl rfl rfl (by assumption) (by omega) (by omega) rfl trivial ?_
        | refine x_nil ?_
        | refine cw_seq ?_
        | refine nw_seq ?_
        | refine nw_block ?_
        | refine cw_block ?_
        | refine cw_skip ?_
        | refine cw_region ?_
        | refine cw_exit rfl ?_
        | refine cw_true rfl ?_
        | refine cw_false rfl ?_)
      refine x_call rfl rfl rfl trivial (need_Put tag long H) ?_
      rintro _ _ ⟨rfl, rfl⟩
      refine ⟨trivial, ?_⟩
      repeat (first
        | refine x_move rfl rfl rfl trivial ?_
        | refine x_assign rfl rfl rfl trivial ?_
        | refine x_add rfl rfl rfl (wrap_i64 (by omega) (by omega)) rfl trivial ?_
        | refine x_sub_ rfl rfl rfl (wrap_i64 (by omega) (by omega)) rfl trivial ?_
        | refine x_mul rfl rfl rfl (wrap_i64 (by omega) (by omega)) rfl trivial ?_
        | refine x_ibin rfl rfl rfl rfl rfl trivial ?_
        | refine x_len rfl rfl (by assumption) rfl trivial ?_
        | refine x_pick_t rfl rfl rfl rfl trivial ?_
        | refine x_pick_f rfl rfl rfl rfl trivial ?_
        | refine x_not rfl rfl rfl trivial ?_
        | refine x_extract rfl rfl rfl rfl trivial ?_
        | refine x_nilCheck rfl rfl rfl trivial ?_
        | refine x_fieldAddr rfl rfl rfl rfl trivial ?_
        | refine x_skip trivial rfl rfl rfl ?_
        | refine x_indexAddr1 rfl rfl rfl (by assumption) (by omega) (by omega) rfl trivial ?_
        | refine x_nil ?_
        | refine cw_seq ?_
        | refine nw_seq ?_
        | refine nw_block ?_
        | refine cw_block ?_
        | refine cw_skip ?_
        | refine cw_region ?_
        | refine cw_exit rfl ?_
        | refine cw_true rfl ?_
        | refine cw_false rfl ?_)
      refine x_call rfl rfl rfl trivial (ref_Put tag long H) ?_
      rintro _ _ ⟨rfl, rfl⟩
      refine ⟨trivial, ?_⟩
      repeat (first
        | refine x_move rfl rfl rfl trivial ?_
        | refine x_assign rfl rfl rfl trivial ?_
        | refine x_add rfl rfl rfl (wrap_i64 (by omega) (by omega)) rfl trivial ?_
        | refine x_sub_ rfl rfl rfl (wrap_i64 (by omega) (by omega)) rfl trivial ?_
        | refine x_mul rfl rfl rfl (wrap_i64 (by omega) (by omega)) rfl trivial ?_
        | refine x_ibin rfl rfl rfl rfl rfl trivial ?_
        | refine x_len rfl rfl (by assumption) rfl trivial ?_
        | refine x_pick_t rfl rfl rfl rfl trivial ?_
        | refine x_pick_f rfl rfl rfl rfl trivial ?_
        | refine x_not rfl rfl rfl trivial ?_
        | refine x_extract rfl rfl rfl rfl trivial ?_
        | refine x_nilCheck rfl rfl rfl trivial ?_
        | refine x_fieldAddr rfl rfl rfl rfl trivial ?_
        | refine x_skip trivial rfl rfl rfl ?_
        | refine x_indexAddr1 rfl rfl rfl (by assumption) (by omega) (by omega) rfl trivial ?_
        | refine x_nil ?_
        | refine cw_seq ?_
        | refine nw_seq ?_
        | refine nw_block ?_
        | refine cw_block ?_
        | refine cw_skip ?_
        | refine cw_region ?_
        | refine cw_exit rfl ?_
        | refine cw_true rfl ?_
        | refine cw_false rfl ?_)
      refine x_true 39 rfl (by simp) ?_
      repeat (first
        | refine x_move rfl rfl rfl trivial ?_
        | refine x_assign rfl rfl rfl trivial ?_
        | refine x_add rfl rfl rfl (wrap_i64 (by omega) (by omega)) rfl trivial ?_
        | refine x_sub_ rfl rfl rfl (wrap_i64 (by omega) (by omega)) rfl trivial ?_
        | refine x_mul rfl rfl rfl (wrap_i64 (by omega) (by omega)) rfl trivial ?_
        | refine x_ibin rfl rfl rfl rfl rfl trivial ?_
        | refine x_len rfl rfl (by assumption) rfl trivial ?_
        | refine x_pick_t rfl rfl rfl rfl trivial ?_
        | refine x_pick_f rfl rfl rfl rfl trivial ?_
        | refine x_not rfl rfl rfl trivial ?_
        | refine x_extract rfl rfl rfl rfl trivial ?_
        | refine x_nilCheck rfl rfl rfl trivial ?_
        | refine x_fieldAddr rfl rfl rfl rfl trivial ?_
        | refine x_skip trivial rfl rfl rfl ?_
        | refine x_indexAddr1 rfl rfl rfl (by assumption) (by omega) (by omega) rfl trivial ?_
        | refine x_nil ?_
        | refine cw_seq ?_
        | refine nw_seq ?_
        | refine nw_block ?_
        | refine cw_block ?_
        | refine cw_skip ?_
        | refine cw_region ?_
        | refine cw_exit rfl ?_
        | refine cw_true rfl ?_
        | refine cw_false rfl ?_)
      refine x_call rfl rfl rfl trivial (need_Build tag hV (by omega)) ?_
      rintro _ _ ⟨rfl, rfl⟩
      refine ⟨trivial, ?_⟩
      repeat (first
        | refine x_move rfl rfl rfl trivial ?_
        | refine x_assign rfl rfl rfl trivial ?_
        | refine x_add rfl rfl rfl (wrap_i64 (by omega) (by omega)) rfl trivial ?_
        | refine x_sub_ rfl rfl rfl (wrap_i64 (by omega) (by omega)) rfl trivial ?_
        | refine x_mul rfl rfl rfl (wrap_i64 (by omega) (by omega)) rfl trivial ?_
        | refine x_ibin rfl rfl rfl rfl rfl trivial ?_
        | refine x_len rfl rfl (by assumption) rfl trivial ?_
        | refine x_pick_t rfl rfl rfl rfl trivial ?_
        | refine x_pick_f rfl rfl rfl rfl trivial ?_
        | refine x_not rfl rfl rfl trivial ?_
        | refine x_extract rfl rfl rfl rfl trivial ?_
        | refine x_nilCheck rfl rfl rfl trivial ?_
        | refine x_fieldAddr rfl rfl rfl rfl trivial ?_
        | refine x_skip trivial rfl rfl rfl ?_
        | refine x_indexAddr1 rfl rfl rfl (by assumption) (by omega) (by omega) rfl trivial ?_
        | refine x_nil ?_
        | refine cw_seq ?_
        | refine nw_seq ?_
        | refine nw_block ?_
        | refine cw_block ?_
        | refine cw_skip ?_
        | refine cw_region ?_
        | refine cw_exit rfl ?_
        | refine cw_true rfl ?_
        | refine cw_false rfl ?_)
      refine x_true 46 rfl (by simp) ?_
      repeat (first
        | refine x_move rfl rfl rfl trivial ?_
        | refine x_assign rfl rfl rfl trivial ?_
        | refine x_add rfl rfl rfl (wrap_i64 (by omega) (by omega)) rfl trivial ?_
        | refine x_sub_ rfl rfl rfl (wrap_i64 (by omega) (by omega)) rfl trivial ?_
        | refine x_mul rfl rfl rfl (wrap_i64 (by omega) (by omega)) rfl trivial ?_
        | refine x_ibin rfl rfl rfl rfl rfl trivial ?_
        | refine x_len rfl rfl (by assumption) rfl trivial ?_
        | refine x_pick_t rfl rfl rfl rfl trivial ?_
        | refine x_pick_f rfl rfl rfl rfl trivial ?_
        | refine x_not rfl rfl rfl trivial ?_
        | refine x_extract rfl rfl rfl rfl trivial ?_
        | refine x_nilCheck rfl rfl rfl trivial ?_
        | refine x_fieldAddr rfl rfl rfl rfl trivial ?_
        | refine x_skip trivial rfl rfl rfl ?_
        | refine x_indexAddr1 rfl rfl rfl (by assumption) (by omega) (by omega) rfl trivial ?_
        | refine x_nil ?_
        | refine cw_seq ?_
        | refine nw_seq ?_
        | refine nw_block ?_
        | refine cw_block ?_
        | refine cw_skip ?_
        | refine cw_region ?_
        | refine cw_exit rfl ?_
        | refine cw_true rfl ?_
        | refine cw_false rfl ?_)
      refine x_append (by rfl) (by rfl) (by rfl) rfl rfl rfl (Own.nil 1 H) sV (cx := l.map (Value.int .i64)) (by simp) hV.at_ (by simp [oneC, Value.oneCell']) (by omega) rfl trivial ?_
      intro v1 H1 hap
      refine ⟨trivial, ?_⟩
      have hk1 := hap.old (Fresh.nil H) (Keep.refl _ _)
      repeat (first
        | refine x_move rfl rfl rfl trivial ?_
        | refine x_assign rfl rfl rfl trivial ?_
        | refine x_add rfl rfl rfl (wrap_i64 (by omega) (by omega)) rfl trivial ?_
        | refine x_sub_ rfl rfl rfl (wrap_i64 (by omega) (by omega)) rfl trivial ?_
        | refine x_mul rfl rfl rfl (wrap_i64 (by omega) (by omega)) rfl trivial ?_
        | refine x_ibin rfl rfl rfl rfl rfl trivial ?_
        | refine x_len rfl rfl (by assumption) rfl trivial ?_
        | refine x_pick_t rfl rfl rfl rfl trivial ?_
        | refine x_pick_f rfl rfl rfl rfl trivial ?_
        | refine x_not rfl rfl rfl trivial ?_
        | refine x_extract rfl rfl rfl rfl trivial ?_
        | refine x_nilCheck rfl rfl rfl trivial ?_
        | refine x_fieldAddr rfl rfl rfl rfl trivial ?_
        | refine x_skip trivial rfl rfl rfl ?_
        | refine x_indexAddr1 rfl rfl rfl (by assumption) (by omega) (by omega) rfl trivial ?_
        | refine x_nil ?_
        | refine cw_seq ?_
        | refine nw_seq ?_
        | refine nw_block ?_
        | refine cw_block ?_
        | refine cw_skip ?_
        | refine cw_region ?_
        | refine cw_exit rfl ?_
        | refine cw_true rfl ?_
        | refine cw_false rfl ?_)
      refine x_buildSlice rfl rfl rfl rfl (by omega) (by simp [oneC, Value.oneCell']) rfl trivial ?_
      intro H2 hn
      refine ⟨trivial, ?_⟩
      have hk2 := hn.old hk1
      have ho2 := hap.own.keep hn.keep (fun _ h => h)
      repeat (first
        | refine x_move rfl rfl rfl trivial ?_
        | refine x_assign rfl rfl rfl trivial ?_
        | refine x_add rfl rfl rfl (wrap_i64 (by omega) (by omega)) rfl trivial ?_
        | refine x_sub_ rfl rfl rfl (wrap_i64 (by omega) (by omega)) rfl trivial ?_
        | refine x_mul rfl rfl rfl (wrap_i64 (by omega) (by omega)) rfl trivial ?_
        | refine x_ibin rfl rfl rfl rfl rfl trivial ?_
        | refine x_len rfl rfl (by assumption) rfl trivial ?_
        | refine x_pick_t rfl rfl rfl rfl trivial ?_
        | refine x_pick_f rfl rfl rfl rfl trivial ?_
        | refine x_not rfl rfl rfl trivial ?_
        | refine x_extract rfl rfl rfl rfl trivial ?_
        | refine x_nilCheck rfl rfl rfl trivial ?_
        | refine x_fieldAddr rfl rfl rfl rfl trivial ?_
        | refine x_skip trivial rfl rfl rfl ?_
        | refine x_indexAddr1 rfl rfl rfl (by assumption) (by omega) (by omega) rfl trivial ?_
        | refine x_nil ?_
        | refine cw_seq ?_
        | refine nw_seq ?_
        | refine nw_block ?_
        | refine cw_block ?_
        | refine cw_skip ?_
        | refine cw_region ?_
        | refine cw_exit rfl ?_
        | refine cw_true rfl ?_
        | refine cw_false rfl ?_)
      refine x_append (by rfl) (by rfl) (by rfl) rfl rfl rfl ho2 (isSl_some (Nat.le_refl _) (by omega)) (m := 1) (cx := [.int .i64 more]) rfl (hn.blk.cels 0 1 (by simp)) (by simp [oneC, Value.oneCell']) (by omega) rfl trivial ?_
      intro v2 H3 hap2
      refine ⟨trivial, ?_⟩
      have hk3 := hap2.old (hap.fresh (Fresh.nil H) (Nat.le_refl _)) hk2
      have hI : Is H3 v2 (l ++ [more]) := by
        have := hap2.own
        refine Own.is ?_
        simpa using this
      have hb2 := needPut_bd tag more
      repeat (first
        | refine x_move rfl rfl rfl trivial ?_
        | refine x_assign rfl rfl rfl trivial ?_
        | refine x_add rfl rfl rfl (wrap_i64 (by omega) (by omega)) rfl trivial ?_
        | refine x_sub_ rfl rfl rfl (wrap_i64 (by omega) (by omega)) rfl trivial ?_
        | refine x_mul rfl rfl rfl (wrap_i64 (by omega) (by omega)) rfl trivial ?_
        | refine x_ibin rfl rfl rfl rfl rfl trivial ?_
        | refine x_len rfl rfl (by assumption) rfl trivial ?_
        | refine x_pick_t rfl rfl rfl rfl trivial ?_
        | refine x_pick_f rfl rfl rfl rfl trivial ?_
        | refine x_not rfl rfl rfl trivial ?_
        | refine x_extract rfl rfl rfl rfl trivial ?_
        | refine x_nilCheck rfl rfl rfl trivial ?_
        | refine x_fieldAddr rfl rfl rfl rfl trivial ?_
        | refine x_skip trivial rfl rfl rfl ?_
        | refine x_indexAddr1 rfl rfl rfl (by assumption) (by omega) (by omega) rfl trivial ?_
        | refine x_nil ?_
        | refine cw_seq ?_
        | refine nw_seq ?_
        | refine nw_block ?_
        | refine cw_block ?_
        | refine cw_skip ?_
        | refine cw_region ?_
        | refine cw_exit rfl ?_
        | refine cw_true rfl ?_
        | refine cw_false rfl ?_)
      refine x_call rfl rfl rfl trivial (need_Build tag hI (by simp; omega)) ?_
      rintro _ _ ⟨rfl, rfl⟩
      refine ⟨trivial, ?_⟩
      repeat (first
        | refine x_move rfl rfl rfl trivial ?_
        | refine x_assign rfl rfl rfl trivial ?_
        | refine x_add rfl rfl rfl (wrap_i64 (by omega) (by omega)) rfl trivial ?_
        | refine x_sub_ rfl rfl rfl (wrap_i64 (by omega) (by omega)) rfl trivial ?_
        | refine x_mul rfl rfl rfl (wrap_i64 (by omega) (by omega)) rfl trivial ?_
        | refine x_ibin rfl rfl rfl rfl rfl trivial ?_
        | refine x_len rfl rfl (by assumption) rfl trivial ?_
        | refine x_pick_t rfl rfl rfl rfl trivial ?_
        | refine x_pick_f rfl rfl rfl rfl trivial ?_
        | refine x_not rfl rfl rfl trivial ?_
        | refine x_extract rfl rfl rfl rfl trivial ?_
        | refine x_nilCheck rfl rfl rfl trivial ?_
        | refine x_fieldAddr rfl rfl rfl rfl trivial ?_
        | refine x_skip trivial rfl rfl rfl ?_
        | refine x_indexAddr1 rfl rfl rfl (by assumption) (by omega) (by omega) rfl trivial ?_
        | refine x_nil ?_
        | refine cw_seq ?_
        | refine nw_seq ?_
        | refine nw_block ?_
        | refine cw_block ?_
        | refine cw_skip ?_
        | refine cw_region ?_
        | refine cw_exit rfl ?_
        | refine cw_true rfl ?_
        | refine cw_false rfl ?_)
      refine x_true 57 rfl (by simp [needSum]; omega) ?_
      repeat (first
        | refine x_move rfl rfl rfl trivial ?_
        | refine x_assign rfl rfl rfl trivial ?_
        | refine x_add rfl rfl rfl (wrap_i64 (by omega) (by omega)) rfl trivial ?_
        | refine x_sub_ rfl rfl rfl (wrap_i64 (by omega) (by omega)) rfl trivial ?_
        | refine x_mul rfl rfl rfl (wrap_i64 (by omega) (by omega)) rfl trivial ?_
        | refine x_ibin rfl rfl rfl rfl rfl trivial ?_
        | refine x_len rfl rfl (by assumption) rfl trivial ?_
        | refine x_pick_t rfl rfl rfl rfl trivial ?_
        | refine x_pick_f rfl rfl rfl rfl trivial ?_
        | refine x_not rfl rfl rfl trivial ?_
        | refine x_extract rfl rfl rfl rfl trivial ?_
        | refine x_nilCheck rfl rfl rfl trivial ?_
        | refine x_fieldAddr rfl rfl rfl rfl trivial ?_
        | refine x_skip trivial rfl rfl rfl ?_
        | refine x_indexAddr1 rfl rfl rfl (by assumption) (by omega) (by omega) rfl trivial ?_
        | refine x_nil ?_
        | refine cw_seq ?_
        | refine nw_seq ?_
        | refine nw_block ?_
        | refine cw_block ?_
        | refine cw_skip ?_
        | refine cw_region ?_
        | refine cw_exit rfl ?_
        | refine cw_true rfl ?_
        | refine cw_false rfl ?_)
      refine x_call rfl rfl rfl trivial (need_Put tag a H3) ?_
      rintro _ _ ⟨rfl, rfl⟩
      refine ⟨trivial, ?_⟩
      repeat (first
        | refine x_move rfl rfl rfl trivial ?_
        | refine x_assign rfl rfl rfl trivial ?_
        | refine x_add rfl rfl rfl (wrap_i64 (by omega) (by omega)) rfl trivial ?_
        | refine x_sub_ rfl rfl rfl (wrap_i64 (by omega) (by omega)) rfl trivial ?_
        | refine x_mul rfl rfl rfl (wrap_i64 (by omega) (by omega)) rfl trivial ?_
        | refine x_ibin rfl rfl rfl rfl rfl trivial ?_
        | refine x_len rfl rfl (by assumption) rfl trivial ?_
        | refine x_pick_t rfl rfl rfl rfl trivial ?_
        | refine x_pick_f rfl rfl rfl rfl trivial ?_
        | refine x_not rfl rfl rfl trivial ?_
        | refine x_extract rfl rfl rfl rfl trivial ?_
        | refine x_nilCheck rfl rfl rfl trivial ?_
        | refine x_fieldAddr rfl rfl rfl rfl trivial ?_
        | refine x_skip trivial rfl rfl rfl ?_
        | refine x_indexAddr1 rfl rfl rfl (by assumption) (by omega) (by omega) rfl trivial ?_
        | refine x_nil ?_
        | refine cw_seq ?_
        | refine nw_seq ?_
        | refine nw_block ?_
        | refine cw_block ?_
        | refine cw_skip ?_
        | refine cw_region ?_
        | refine cw_exit rfl ?_
        | refine cw_true rfl ?_
        | refine cw_false rfl ?_)
      refine x_call rfl rfl rfl trivial (need_Put tag (a + 1) H3) ?_
      rintro _ _ ⟨rfl, rfl⟩
      refine ⟨trivial, ?_⟩
      repeat (first
        | refine x_move rfl rfl rfl trivial ?_
        | refine x_assign rfl rfl rfl trivial ?_
        | refine x_add rfl rfl rfl (wrap_i64 (by omega) (by omega)) rfl trivial ?_
        | refine x_sub_ rfl rfl rfl (wrap_i64 (by omega) (by omega)) rfl trivial ?_
        | refine x_mul rfl rfl rfl (wrap_i64 (by omega) (by omega)) rfl trivial ?_
        | refine x_ibin rfl rfl rfl rfl rfl trivial ?_
        | refine x_len rfl rfl (by assumption) rfl trivial ?_
        | refine x_pick_t rfl rfl rfl rfl trivial ?_
        | refine x_pick_f rfl rfl rfl rfl trivial ?_
        | refine x_not rfl rfl rfl trivial ?_
        | refine x_extract rfl rfl rfl rfl trivial ?_
        | refine x_nilCheck rfl rfl rfl trivial ?_
        | refine x_fieldAddr rfl rfl rfl rfl trivial ?_
        | refine x_skip trivial rfl rfl rfl ?_
        | refine x_indexAddr1 rfl rfl rfl (by assumption) (by omega) (by omega) rfl trivial ?_
        | refine x_nil ?_
        | refine cw_seq ?_
        | refine nw_seq ?_
        | refine nw_block ?_
        | refine cw_block ?_
        | refine cw_skip ?_
        | refine cw_region ?_
        | refine cw_exit rfl ?_
        | refine cw_true rfl ?_
        | refine cw_false rfl ?_)
      refine x_true 67 rfl (by simp; exact needPut_mono tag a ha.1 (by omega)) ?_
      repeat (first
        | refine x_move rfl rfl rfl trivial ?_
        | refine x_assign rfl rfl rfl trivial ?_
        | refine x_add rfl rfl rfl (wrap_i64 (by omega) (by omega)) rfl trivial ?_
        | refine x_sub_ rfl rfl rfl (wrap_i64 (by omega) (by omega)) rfl trivial ?_
        | refine x_mul rfl rfl rfl (wrap_i64 (by omega) (by omega)) rfl trivial ?_
        | refine x_ibin rfl rfl rfl rfl rfl trivial ?_
        | refine x_len rfl rfl (by assumption) rfl trivial ?_
        | refine x_pick_t rfl rfl rfl rfl trivial ?_
        | refine x_pick_f rfl rfl rfl rfl trivial ?_
        | refine x_not rfl rfl rfl trivial ?_
        | refine x_extract rfl rfl rfl rfl trivial ?_
        | refine x_nilCheck rfl rfl rfl trivial ?_
        | refine x_fieldAddr rfl rfl rfl rfl trivial ?_
        | refine x_skip trivial rfl rfl rfl ?_
        | refine x_indexAddr1 rfl rfl rfl (by assumption) (by omega) (by omega) rfl trivial ?_
        | refine x_nil ?_
        | refine cw_seq ?_
        | refine nw_seq ?_
        | refine nw_block ?_
        | refine cw_block ?_
        | refine cw_skip ?_
        | refine cw_region ?_
        | refine cw_exit rfl ?_
        | refine cw_true rfl ?_
        | refine cw_false rfl ?_)
      refine x_call rfl rfl rfl trivial (awake10 H3) ?_
      rintro _ H4 ⟨rfl, hk⟩
      refine ⟨trivial, ?_⟩
      repeat (first
        | refine x_move rfl rfl rfl trivial ?_
        | refine x_assign rfl rfl rfl trivial ?_
        | refine x_add rfl rfl rfl (wrap_i64 (by omega) (by omega)) rfl trivial ?_
        | refine x_sub_ rfl rfl rfl (wrap_i64 (by omega) (by omega)) rfl trivial ?_
        | refine x_mul rfl rfl rfl (wrap_i64 (by omega) (by omega)) rfl trivial ?_
        | refine x_ibin rfl rfl rfl rfl rfl trivial ?_
        | refine x_len rfl rfl (by assumption) rfl trivial ?_
        | refine x_pick_t rfl rfl rfl rfl trivial ?_
        | refine x_pick_f rfl rfl rfl rfl trivial ?_
        | refine x_not rfl rfl rfl trivial ?_
        | refine x_extract rfl rfl rfl rfl trivial ?_
        | refine x_nilCheck rfl rfl rfl trivial ?_
        | refine x_fieldAddr rfl rfl rfl rfl trivial ?_
        | refine x_skip trivial rfl rfl rfl ?_
        | refine x_indexAddr1 rfl rfl rfl (by assumption) (by omega) (by omega) rfl trivial ?_
        | refine x_nil ?_
        | refine cw_seq ?_
        | refine nw_seq ?_
        | refine nw_block ?_
        | refine cw_block ?_
        | refine cw_skip ?_
        | refine cw_region ?_
        | refine cw_exit rfl ?_
        | refine cw_true rfl ?_
        | refine cw_false rfl ?_)
      exact cw_ret1 rfl rfl ⟨rfl, hk3.non_trans hk⟩

theorem walk_NeedParts (tag cut : Int) (ht : -9223372036854775808 ≤ tag ∧ tag ≤ 9223372036854775807) (hcut : -9223372036854775808 ≤ cut ∧ cut ≤ 9223372036854775807) {v : Value} {l : List Int} {H : Heap} (hV : Is H v l) :
    Ret Try.prog 4 [.int .i64 tag, v, .int .i64 cut] H (Yes H) := by
  have sV := hV.sl
  have cV := sV.cap
  refine ret_of Try.func4 rfl rfl rfl rfl ?_
  intro w0
  repeat (first
    | refine x_move rfl rfl rfl trivial ?_
    | refine x_assign rfl rfl rfl trivial ?_
    | refine x_add rfl rfl rfl (wrap_i64 (by omega) (by omega)) rfl trivial ?_
    | refine x_sub_ rfl rfl rfl (wrap_i64 (by omega) (by omega)) rfl trivial ?_
    | refine x_mul rfl rfl rfl (wrap_i64 (by omega) (by omega)) rfl trivial ?_
    | refine x_ibin rfl rfl rfl rfl rfl trivial ?_
    | refine x_len rfl rfl (by assumption) rfl trivial ?_
    | refine x_pick_t rfl rfl rfl rfl trivial ?_
    | refine x_pick_f rfl rfl rfl rfl trivial ?_
    | refine x_not rfl rfl rfl trivial ?_
    | refine x_extract rfl rfl rfl rfl trivial ?_
    | refine x_nilCheck rfl rfl rfl trivial ?_
    | refine x_fieldAddr rfl rfl rfl rfl trivial ?_
    | refine x_skip trivial rfl rfl rfl ?_
    | refine x_indexAddr1 rfl rfl rfl (by assumption) (by omega) (by omega) rfl trivial ?_
    | refine x_nil ?_
    | refine cw_seq ?_
    | refine nw_seq ?_
    | refine nw_block ?_
    | refine cw_block ?_
    | refine cw_skip ?_
    | refine cw_region ?_
    | refine cw_exit rfl ?_
    | refine cw_true rfl ?_
    | refine cw_false rfl ?_)
  refine cw_cond rfl (fun h1 => ?_) (fun h1 => ?_) <;> (try simp at h1)
  · repeat (first
      | refine x_move rfl rfl rfl trivial ?_
      | refine x_assign rfl rfl rfl trivial ?_
      | refine x_add rfl rfl rfl (wrap_i64 (by omega) (by omega)) rfl trivial ?_
      | refine x_sub_ rfl rfl rfl (wrap_i64 (by omega) (by omega)) rfl trivial ?_
      | refine x_mul rfl rfl rfl (wrap_i64 (by omega) (by omega)) rfl trivial ?_
      | refine x_ibin rfl rfl rfl rfl rfl trivial ?_
      | refine x_len rfl rfl (by assumption) rfl trivial ?_
      | refine x_pick_t rfl rfl rfl rfl trivial ?_
      | refine x_pick_f rfl rfl rfl rfl trivial ?_
      | refine x_not rfl rfl rfl trivial ?_
      | refine x_extract rfl rfl rfl rfl trivial ?_
      | refine x_nilCheck rfl rfl rfl trivial ?_
      | refine x_fieldAddr rfl rfl rfl rfl trivial ?_
      | refine x_skip trivial rfl rfl rfl ?_
      | refine x_indexAddr1 rfl rfl rfl (by assumption) (by omega) (by omega) rfl trivial ?_
      | refine x_nil ?_
      | refine cw_seq ?_
      | refine nw_seq ?_
      | refine nw_block ?_
      | refine cw_block ?_
      | refine cw_skip ?_
      | refine cw_region ?_
      | refine cw_exit rfl ?_
      | refine cw_true rfl ?_
      | refine cw_false rfl ?_)
    refine x_call rfl rfl rfl trivial (awake10 H) ?_
    rintro _ H1 ⟨rfl, hk⟩
    refine ⟨trivial, ?_⟩
    repeat (first
      | refine x_move rfl rfl rfl trivial ?_
      | refine x_assign rfl rfl rfl trivial ?_
      | refine x_add rfl rfl rfl (wrap_i64 (by omega) (by omega)) rfl trivial ?_
      | refine x_sub_ rfl rfl rfl (wrap_i64 (by omega) (by omega)) rfl trivial ?_
      | refine x_mul rfl rfl rfl (wrap_i64 (by omega) (by omega)) rfl trivial ?_
      | refine x_ibin rfl rfl rfl rfl rfl trivial ?_
      | refine x_len rfl rfl (by assumption) rfl trivial ?_
      | refine x_pick_t rfl rfl rfl rfl trivial ?_
      | refine x_pick_f rfl rfl rfl rfl trivial ?_
      | refine x_not rfl rfl rfl trivial ?_
      | refine x_extract rfl rfl rfl rfl trivial ?_
      | refine x_nilCheck rfl rfl rfl trivial ?_
      | refine x_fieldAddr rfl rfl rfl rfl trivial ?_
      | refine x_skip trivial rfl rfl rfl ?_
      | refine x_indexAddr1 rfl rfl rfl (by assumption) (by omega) (by omega) rfl trivial ?_
      | refine x_nil ?_
      | refine cw_seq ?_
      | refine nw_seq ?_
      | refine nw_block ?_
      | refine cw_block ?_
      | refine cw_skip ?_
      | refine cw_region ?_
      | refine cw_exit rfl ?_
      | refine cw_true rfl ?_
      | refine cw_false rfl ?_)
    exact cw_ret1 rfl rfl ⟨rfl, hk⟩
  · repeat (first
      | refine x_move rfl rfl rfl trivial ?_
      | refine x_assign rfl rfl rfl trivial ?_
      | refine x_add rfl rfl rfl (wrap_i64 (by omega) (by omega)) rfl trivial ?_
      | refine x_sub_ rfl rfl rfl (wrap_i64 (by omega) (by omega)) rfl trivial ?_
      | refine x_mul rfl rfl rfl (wrap_i64 (by omega) (by omega)) rfl trivial ?_
      | refine x_ibin rfl rfl rfl rfl rfl trivial ?_
      | refine x_len rfl rfl (by assumption) rfl trivial ?_
      | refine x_pick_t rfl rfl rfl rfl trivial ?_
      | refine x_pick_f rfl rfl rfl rfl trivial ?_
      | refine x_not rfl rfl rfl trivial ?_
      | refine x_extract rfl rfl rfl rfl trivial ?_
      | refine x_nilCheck rfl rfl rfl trivial ?_
      | refine x_fieldAddr rfl rfl rfl rfl trivial ?_
      | refine x_skip trivial rfl rfl rfl ?_
      | refine x_indexAddr1 rfl rfl rfl (by assumption) (by omega) (by omega) rfl trivial ?_
      | refine x_nil ?_
      | refine cw_seq ?_
      | refine nw_seq ?_
      | refine nw_block ?_
      | refine cw_block ?_
      | refine cw_skip ?_
      | refine cw_region ?_
      | refine cw_exit rfl ?_
      | refine cw_true rfl ?_
      | refine cw_false rfl ?_)
    refine x_call rfl rfl rfl trivial (law_Low cut (l.length + 1) hcut (by omega) H) ?_
    rintro _ _ ⟨rfl, c, rfl, hc0, hc1⟩
    refine ⟨trivial, ?_⟩
    obtain ⟨c, rfl⟩ := Int.eq_ofNat_of_zero_le hc0
    have hc : c ≤ l.length := by omega
    repeat (first
      | refine x_move rfl rfl rfl trivial ?_
      | refine x_assign rfl rfl rfl trivial ?_
      | refine x_add rfl rfl rfl (wrap_i64 (by omega) (by omega)) rfl trivial ?_
      | refine x_sub_ rfl rfl rfl (wrap_i64 (by omega) (by omega)) rfl trivial ?_
      | refine x_mul rfl rfl rfl (wrap_i64 (by omega) (by omega)) rfl trivial ?_
      | refine x_ibin rfl rfl rfl rfl rfl trivial ?_
      | refine x_len rfl rfl (by assumption) rfl trivial ?_
      | refine x_pick_t rfl rfl rfl rfl trivial ?_
      | refine x_pick_f rfl rfl rfl rfl trivial ?_
      | refine x_not rfl rfl rfl trivial ?_
      | refine x_extract rfl rfl rfl rfl trivial ?_
      | refine x_nilCheck rfl rfl rfl trivial ?_
      | refine x_fieldAddr rfl rfl rfl rfl trivial ?_
      | refine x_skip trivial rfl rfl rfl ?_
      | refine x_indexAddr1 rfl rfl rfl (by assumption) (by omega) (by omega) rfl trivial ?_
      | refine x_nil ?_
      | refine cw_seq ?_
      | refine nw_seq ?_
      | refine nw_block ?_
      | refine cw_block ?_
      | refine cw_skip ?_
      | refine cw_region ?_
      | refine cw_exit rfl ?_
      | refine cw_true rfl ?_
      | refine cw_false rfl ?_)
    refine cw_held (fun _ _ => True) ⟨[3, 7], []⟩ (.op 0 (.op 1 (.op 2 (.op 4 (.op 5 (.op 6 (.op 3 (.op 7 (.op 8 (.nil)))))))))) panicOk_body mixed (by kernel_rfl) ?_
    repeat (first
      | refine x_move rfl rfl rfl (okq_reg rfl rfl) ?_
      | refine x_assign rfl rfl rfl (okq_reg rfl rfl) ?_
      | refine x_add rfl rfl rfl (wrap_i64 (by omega) (by omega)) rfl (okq_reg rfl rfl) ?_
      | refine x_sub_ rfl rfl rfl (wrap_i64 (by omega) (by omega)) rfl (okq_reg rfl rfl) ?_
      | refine x_mul rfl rfl rfl (wrap_i64 (by omega) (by omega)) rfl (okq_reg rfl rfl) ?_
      | refine x_ibin rfl rfl rfl rfl rfl (okq_reg rfl rfl) ?_
      | refine x_len rfl rfl (by assumption) rfl (okq_reg rfl rfl) ?_
      | refine x_pick_t rfl rfl rfl rfl (okq_reg rfl rfl) ?_
      | refine x_pick_f rfl rfl rfl rfl (okq_reg rfl rfl) ?_
      | refine x_not rfl rfl rfl (okq_reg rfl rfl) ?_
      | refine x_extract rfl rfl rfl rfl (okq_reg rfl rfl) ?_
      | refine x_nilCheck rfl rfl rfl (okq_reg rfl rfl) ?_
      | refine x_fieldAddr rfl rfl rfl rfl (okq_reg rfl rfl) ?_
      | refine x_skip (okq_reg rfl rfl) rfl rfl rfl ?_
      | refine x_indexAddr1 rfl rfl rfl (by assumption) (by omega) (by omega) rfl (okq_reg rfl rfl) ?_
      | refine x_nil ?_
      | refine cw_seq ?_
      | refine nw_seq ?_
      | refine nw_block ?_
      | refine cw_block ?_
      | refine cw_skip ?_
      | refine cw_region ?_
      | refine cw_exit rfl ?_
      | refine cw_true rfl ?_
      | refine cw_false rfl ?_)
    refine x_slice_l rfl rfl rfl (by assumption) (by omega) (by omega) rfl (okq_reg rfl rfl) ?_
    intro u1 hu1 hcut1
    have hU1 := hV.cut (a := c) (b := l.length) (by simpa using hu1) hcut1 hc (Nat.le_refl _)
    rw [List.take_length] at hU1
    repeat (first
      | refine x_move rfl rfl rfl (okq_reg rfl rfl) ?_
      | refine x_assign rfl rfl rfl (okq_reg rfl rfl) ?_
      | refine x_add rfl rfl rfl (wrap_i64 (by omega) (by omega)) rfl (okq_reg rfl rfl) ?_
      | refine x_sub_ rfl rfl rfl (wrap_i64 (by omega) (by omega)) rfl (okq_reg rfl rfl) ?_
      | refine x_mul rfl rfl rfl (wrap_i64 (by omega) (by omega)) rfl (okq_reg rfl rfl) ?_
      | refine x_ibin rfl rfl rfl rfl rfl (okq_reg rfl rfl) ?_
      | refine x_len rfl rfl (by assumption) rfl (okq_reg rfl rfl) ?_
      | refine x_pick_t rfl rfl rfl rfl (okq_reg rfl rfl) ?_
      | refine x_pick_f rfl rfl rfl rfl (okq_reg rfl rfl) ?_
      | refine x_not rfl rfl rfl (okq_reg rfl rfl) ?_
      | refine x_extract rfl rfl rfl rfl (okq_reg rfl rfl) ?_
      | refine x_nilCheck rfl rfl rfl (okq_reg rfl rfl) ?_
      | refine x_fieldAddr rfl rfl rfl rfl (okq_reg rfl rfl) ?_
      | refine x_skip (okq_reg rfl rfl) rfl rfl rfl ?_
      | refine x_indexAddr1 rfl rfl rfl (by assumption) (by omega) (by omega) rfl (okq_reg rfl rfl) ?_
      | refine x_nil ?_
      | refine cw_seq ?_
      | refine nw_seq ?_
      | refine nw_block ?_
      | refine cw_block ?_
      | refine cw_skip ?_
      | refine cw_region ?_
      | refine cw_exit rfl ?_
      | refine cw_true rfl ?_
      | refine cw_false rfl ?_)
    refine x_slice_h rfl rfl rfl (by assumption) (by omega) (by omega) rfl (okq_reg rfl rfl) ?_
    intro u2 hu2 hcut2
    have hU2 := hV.cut (a := 0) (b := c) (by simpa using hu2) hcut2 (by omega) hc
    rw [List.drop_zero] at hU2
    refine x_append (by rfl) (by rfl) (by rfl) rfl rfl rfl (Own.nil 1 H) hu1 (cx := (l.drop c).map (Value.int .i64)) (by simp) hU1.at_ (ints_oneC _) (by omega) rfl ⟨rfl, rfl⟩ ?_
    intro v1 H1 hap
    refine ⟨okm_nil rfl, ?_⟩
    have hk1 := hap.old (Fresh.nil H) (Keep.refl _ _)
    have hown : Own 1 H1 v1 (l.length - c) ((l.drop c).map (Value.int .i64)) := by simpa using hap.own
    repeat (first
      | refine x_move rfl rfl rfl (okq_reg rfl rfl) ?_
      | refine x_assign rfl rfl rfl (okq_reg rfl rfl) ?_
      | refine x_add rfl rfl rfl (wrap_i64 (by omega) (by omega)) rfl (okq_reg rfl rfl) ?_
      | refine x_sub_ rfl rfl rfl (wrap_i64 (by omega) (by omega)) rfl (okq_reg rfl rfl) ?_
      | refine x_mul rfl rfl rfl (wrap_i64 (by omega) (by omega)) rfl (okq_reg rfl rfl) ?_
      | refine x_ibin rfl rfl rfl rfl rfl (okq_reg rfl rfl) ?_
      | refine x_len rfl rfl (by assumption) rfl (okq_reg rfl rfl) ?_
      | refine x_pick_t rfl rfl rfl rfl (okq_reg rfl rfl) ?_
      | refine x_pick_f rfl rfl rfl rfl (okq_reg rfl rfl) ?_
      | refine x_not rfl rfl rfl (okq_reg rfl rfl) ?_
      | refine x_extract rfl rfl rfl rfl (okq_reg rfl rfl) ?_
      | refine x_nilCheck rfl rfl rfl (okq_reg rfl rfl) ?_
      | refine x_fieldAddr rfl rfl rfl rfl (okq_reg rfl rfl) ?_
      | refine x_skip (okq_reg rfl rfl) rfl rfl rfl ?_
      | refine x_indexAddr1 rfl rfl rfl (by assumption) (by omega) (by omega) rfl (okq_reg rfl rfl) ?_
      | refine x_nil ?_
      | refine cw_seq ?_
      | refine nw_seq ?_
      | refine nw_block ?_
      | refine cw_block ?_
      | refine cw_skip ?_
      | refine cw_region ?_
      | refine cw_exit rfl ?_
      | refine cw_true rfl ?_
      | refine cw_false rfl ?_)
    refine x_append (by rfl) (by rfl) (by rfl) rfl rfl rfl hown hu2 (cx := (l.take c).map (Value.int .i64)) (by simp; omega) (hU2.keepN hk1).at_ (ints_oneC _) (by omega) rfl ⟨rfl, rfl⟩ ?_
    intro v2 H2 hap2
    refine ⟨okm_nil rfl, ?_⟩
    have hk2 := hap2.old (hap.fresh (Fresh.nil H) (Nat.le_refl _)) hk1
    have hW : Is H2 v2 (l.drop c ++ l.take c) := by
      have := hap2.own
      refine Own.is ?_
      simp only [List.map_append, List.length_append, List.length_drop, List.length_take, Nat.min_eq_left hc]
      exact this
    repeat (first
      | refine x_move rfl rfl rfl (okq_reg rfl rfl) ?_
      | refine x_assign rfl rfl rfl (okq_reg rfl rfl) ?_
      | refine x_add rfl rfl rfl (wrap_i64 (by omega) (by omega)) rfl (okq_reg rfl rfl) ?_
      | refine x_sub_ rfl rfl rfl (wrap_i64 (by omega) (by omega)) rfl (okq_reg rfl rfl) ?_
      | refine x_mul rfl rfl rfl (wrap_i64 (by omega) (by omega)) rfl (okq_reg rfl rfl) ?_
      | refine x_ibin rfl rfl rfl rfl rfl (okq_reg rfl rfl) ?_
      | refine x_len rfl rfl (by assumption) rfl (okq_reg rfl rfl) ?_
      | refine x_pick_t rfl rfl rfl rfl (okq_reg rfl rfl) ?_
      | refine x_pick_f rfl rfl rfl rfl (okq_reg rfl rfl) ?_
      | refine x_not rfl rfl rfl (okq_reg rfl rfl) ?_
      | refine x_extract rfl rfl rfl rfl (okq_reg rfl rfl) ?_
      | refine x_nilCheck rfl rfl rfl (okq_reg rfl rfl) ?_
      | refine x_fieldAddr rfl rfl rfl rfl (okq_reg rfl rfl) ?_
      | refine x_skip (okq_reg rfl rfl) rfl rfl rfl ?_
      | refine x_indexAddr1 rfl rfl rfl (by assumption) (by omega) (by omega) rfl (okq_reg rfl rfl) ?_
      | refine x_nil ?_
      | refine cw_seq ?_
      | refine nw_seq ?_
      | refine nw_block ?_
      | refine cw_block ?_
      | refine cw_skip ?_
      | refine cw_region ?_
      | refine cw_exit rfl ?_
      | refine cw_true rfl ?_
      | refine cw_false rfl ?_)
    repeat (first
      | refine x_move rfl rfl rfl trivial ?_
      | refine x_assign rfl rfl rfl trivial ?_
      | refine x_add rfl rfl rfl (wrap_i64 (by omega) (by omega)) rfl trivial ?_
      | refine x_sub_ rfl rfl rfl (wrap_i64 (by omega) (by omega)) rfl trivial ?_
      | refine x_mul rfl rfl rfl (wrap_i64 (by omega) (by omega)) rfl trivial ?_
      | refine x_ibin rfl rfl rfl rfl rfl trivial ?_
      | refine x_len rfl rfl (by assumption) rfl trivial ?_
      | refine x_pick_t rfl rfl rfl rfl trivial ?_
      | refine x_pick_f rfl rfl rfl rfl trivial ?_
      | refine x_not rfl rfl rfl trivial ?_
      | refine x_extract rfl rfl rfl rfl trivial ?_
      | refine x_nilCheck rfl rfl rfl trivial ?_
      | refine x_fieldAddr rfl rfl rfl rfl trivial ?_
      | refine x_skip trivial rfl rfl rfl ?_
      | refine x_indexAddr1 rfl rfl rfl (by assumption) (by omega) (by omega) rfl trivial ?_
      | refine x_nil ?_
      | refine cw_seq ?_
      | refine nw_seq ?_
      | refine nw_block ?_
      | refine cw_block ?_
      | refine cw_skip ?_
      | refine cw_region ?_
      | refine cw_exit rfl ?_
      | refine cw_true rfl ?_
      | refine cw_false rfl ?_)
    have hV2 := hV.keepN hk2
    have hb0 := needSum_bd tag l
    refine cw_loop (fun j : Nat => [(0, .int .i64 tag), (1, v), (2, .int .i64 c), (7, v2), (8, .int .i64 (needSum tag (l.take j))), (9, .int .i64 j)]) (fun j H' => H2 = H' ∧ j ≤ l.length) (fun j => l.length - j) 0 ⟨rfl, rfl, rfl, rfl, rfl, rfl, trivial⟩ ⟨rfl, by omega⟩ ?_
    rintro j _ ⟨rfl, hj⟩
    have hb := needSum_bd tag (l.take j)
    have hlt : (l.take j).length ≤ 40 := by simp; omega
    repeat (first
      | refine x_move rfl rfl rfl trivial ?_
      | refine x_assign rfl rfl rfl trivial ?_
      | refine x_add rfl rfl rfl (wrap_i64 (by omega) (by omega)) rfl trivial ?_
      | refine x_sub_ rfl rfl rfl (wrap_i64 (by omega) (by omega)) rfl trivial ?_
      | refine x_mul rfl rfl rfl (wrap_i64 (by omega) (by omega)) rfl trivial ?_
      | refine x_ibin rfl rfl rfl rfl rfl trivial ?_
      | refine x_len rfl rfl (by assumption) rfl trivial ?_
      | refine x_pick_t rfl rfl rfl rfl trivial ?_
      | refine x_pick_f rfl rfl rfl rfl trivial ?_
      | refine x_not rfl rfl rfl trivial ?_
      | refine x_extract rfl rfl rfl rfl trivial ?_
      | refine x_nilCheck rfl rfl rfl trivial ?_
      | refine x_fieldAddr rfl rfl rfl rfl trivial ?_
      | refine x_skip trivial rfl rfl rfl ?_
      | refine x_indexAddr1 rfl rfl rfl (by assumption) (by omega) (by omega) rfl trivial ?_
      | refine x_nil ?_
      | refine cw_seq ?_
      | refine nw_seq ?_
      | refine nw_block ?_
      | refine cw_block ?_
      | refine cw_skip ?_
      | refine cw_region ?_
      | refine cw_exit rfl ?_
      | refine cw_true rfl ?_
      | refine cw_false rfl ?_)
    refine cw_cond rfl (fun h2 => ?_) (fun h2 => ?_) <;> (try simp at h2)
    · obtain ⟨x, hx⟩ : ∃ x, l[j]? = some x := ⟨_, List.getElem?_eq_getElem h2⟩
      have hp := needPut_bd tag x
      repeat (first
        | refine x_move rfl rfl rfl trivial ?_
        | refine x_assign rfl rfl rfl trivial ?_
        | refine x_add rfl rfl rfl (wrap_i64 (by omega) (by omega)) rfl trivial ?_
        | refine x_sub_ rfl rfl rfl (wrap_i64 (by omega) (by omega)) rfl trivial ?_
        | refine x_mul rfl rfl rfl (wrap_i64 (by omega) (by omega)) rfl trivial ?_
        | refine x_ibin rfl rfl rfl rfl rfl trivial ?_
        | refine x_len rfl rfl (by assumption) rfl trivial ?_
        | refine x_pick_t rfl rfl rfl rfl trivial ?_
        | refine x_pick_f rfl rfl rfl rfl trivial ?_
        | refine x_not rfl rfl rfl trivial ?_
        | refine x_extract rfl rfl rfl rfl trivial ?_
        | refine x_nilCheck rfl rfl rfl trivial ?_
        | refine x_fieldAddr rfl rfl rfl rfl trivial ?_
        | refine x_skip trivial rfl rfl rfl ?_
        | refine x_indexAddr1 rfl rfl rfl (by assumption) (by omega) (by omega) rfl trivial ?_
        | refine x_nil ?_
        | refine cw_seq ?_
        | refine nw_seq ?_
        | refine nw_block ?_
        | refine cw_block ?_
        | refine cw_skip ?_
        | refine cw_region ?_
        | refine cw_exit rfl ?_
        | refine cw_true rfl ?_
        | refine cw_false rfl ?_)
      refine x_load rfl rfl (hpmt (hV2.get j x hx)) rfl trivial ?_
      repeat (first
        | refine x_move rfl rfl rfl trivial ?_
        | refine x_assign rfl rfl rfl trivial ?_
        | refine x_add rfl rfl rfl (wrap_i64 (by omega) (by omega)) rfl trivial ?_
        | refine x_sub_ rfl rfl rfl (wrap_i64 (by omega) (by omega)) rfl trivial ?_
        | refine x_mul rfl rfl rfl (wrap_i64 (by omega) (by omega)) rfl trivial ?_
        | refine x_ibin rfl rfl rfl rfl rfl trivial ?_
        | refine x_len rfl rfl (by assumption) rfl trivial ?_
        | refine x_pick_t rfl rfl rfl rfl trivial ?_
        | refine x_pick_f rfl rfl rfl rfl trivial ?_
        | refine x_not rfl rfl rfl trivial ?_
        | refine x_extract rfl rfl rfl rfl trivial ?_
        | refine x_nilCheck rfl rfl rfl trivial ?_
        | refine x_fieldAddr rfl rfl rfl rfl trivial ?_
        | refine x_skip trivial rfl rfl rfl ?_
        | refine x_indexAddr1 rfl rfl rfl (by assumption) (by omega) (by omega) rfl trivial ?_
        | refine x_nil ?_
        | refine cw_seq ?_
        | refine nw_seq ?_
        | refine nw_block ?_
        | refine cw_block ?_
        | refine cw_skip ?_
        | refine cw_region ?_
        | refine cw_exit rfl ?_
        | refine cw_true rfl ?_
        | refine cw_false rfl ?_)
      refine x_call rfl rfl rfl trivial (need_Put tag x H2) ?_
      rintro _ _ ⟨rfl, rfl⟩
      refine ⟨trivial, ?_⟩
      repeat (first
        | refine x_move rfl rfl rfl trivial ?_
        | refine x_assign rfl rfl rfl trivial ?_
        | refine x_add rfl rfl rfl (wrap_i64 (by omega) (by omega)) rfl trivial ?_
        | refine x_sub_ rfl rfl rfl (wrap_i64 (by omega) (by omega)) rfl trivial ?_
        | refine x_mul rfl rfl rfl (wrap_i64 (by omega) (by omega)) rfl trivial ?_
        | refine x_ibin rfl rfl rfl rfl rfl trivial ?_
        | refine x_len rfl rfl (by assumption) rfl trivial ?_
        | refine x_pick_t rfl rfl rfl rfl trivial ?_
        | refine x_pick_f rfl rfl rfl rfl trivial ?_
        | refine x_not rfl rfl rfl trivial ?_
        | refine x_extract rfl rfl rfl rfl trivial ?_
        | refine x_nilCheck rfl rfl rfl trivial ?_
        | refine x_fieldAddr rfl rfl rfl rfl trivial ?_
        | refine x_skip trivial rfl rfl rfl ?_
        | refine x_indexAddr1 rfl rfl rfl (by assumption) (by omega) (by omega) rfl trivial ?_
        | refine x_nil ?_
        | refine cw_seq ?_
        | refine nw_seq ?_
        | refine nw_block ?_
        | refine cw_block ?_
        | refine cw_skip ?_
        | refine cw_region ?_
        | refine cw_exit rfl ?_
        | refine cw_true rfl ?_
        | refine cw_false rfl ?_)
      refine nw_round (j + 1) ⟨rfl, rfl, rfl, rfl, ?_, rfl, trivial⟩ ⟨rfl, by omega⟩ (by omega)
      rw [needSum_take hx]
      rfl
    · have hje : j = l.length := by omega
      subst hje
      rw [List.take_length] at hb ⊢
      repeat (first
        | refine x_move rfl rfl rfl trivial ?_
        | refine x_assign rfl rfl rfl trivial ?_
        | refine x_add rfl rfl rfl (wrap_i64 (by omega) (by omega)) rfl trivial ?_
        | refine x_sub_ rfl rfl rfl (wrap_i64 (by omega) (by omega)) rfl trivial ?_
        | refine x_mul rfl rfl rfl (wrap_i64 (by omega) (by omega)) rfl trivial ?_
        | refine x_ibin rfl rfl rfl rfl rfl trivial ?_
        | refine x_len rfl rfl (by assumption) rfl trivial ?_
        | refine x_pick_t rfl rfl rfl rfl trivial ?_
        | refine x_pick_f rfl rfl rfl rfl trivial ?_
        | refine x_not rfl rfl rfl trivial ?_
        | refine x_extract rfl rfl rfl rfl trivial ?_
        | refine x_nilCheck rfl rfl rfl trivial ?_
        | refine x_fieldAddr rfl rfl rfl rfl trivial ?_
        | refine x_skip trivial rfl rfl rfl ?_
        | refine x_indexAddr1 rfl rfl rfl (by assumption) (by omega) (by omega) rfl trivial ?_
        | refine x_nil ?_
        | refine cw_seq ?_
        | refine nw_seq ?_
        | refine nw_block ?_
        | refine cw_block ?_
        | refine cw_skip ?_
        | refine cw_region ?_
        | refine cw_exit rfl ?_
        | refine cw_true rfl ?_
        | refine cw_false rfl ?_)
      refine x_call rfl rfl rfl trivial (need_Build tag hV2 (by omega)) ?_
      rintro _ _ ⟨rfl, rfl⟩
      refine ⟨trivial, ?_⟩
      repeat (first
        | refine x_move rfl rfl rfl trivial ?_
        | refine x_assign rfl rfl rfl trivial ?_
        | refine x_add rfl rfl rfl (wrap_i64 (by omega) (by omega)) rfl trivial ?_
        | refine x_sub_ rfl rfl rfl (wrap_i64 (by omega) (by omega)) rfl trivial ?_
        | refine x_mul rfl rfl rfl (wrap_i64 (by omega) (by omega)) rfl trivial ?_
        | refine x_ibin rfl rfl rfl rfl rfl trivial ?_
        | refine x_len rfl rfl (by assumption) rfl trivial ?_
        | refine x_pick_t rfl rfl rfl rfl trivial ?_
        | refine x_pick_f rfl rfl rfl rfl trivial ?_
        | refine x_not rfl rfl rfl trivial ?_
        | refine x_extract rfl rfl rfl rfl trivial ?_
        | refine x_nilCheck rfl rfl rfl trivial ?_
        | refine x_fieldAddr rfl rfl rfl rfl trivial ?_
        | refine x_skip trivial rfl rfl rfl ?_
        | refine x_indexAddr1 rfl rfl rfl (by assumption) (by omega) (by omega) rfl trivial ?_
        | refine x_nil ?_
        | refine cw_seq ?_
        | refine nw_seq ?_
        | refine nw_block ?_
        | refine cw_block ?_
        | refine cw_skip ?_
        | refine cw_region ?_
        | refine cw_exit rfl ?_
        | refine cw_true rfl ?_
        | refine cw_false rfl ?_)
      refine cw_held (fun _ _ => True) ⟨[5, 10, 17, 30], []⟩ (.op 0 (.op 1 (.op 2 (.op 3 (.op 4 (.op 6 (.op 7 (.op 8 (.op 9 (.op 5 (.op 10 (.op 11 (.op 12 (.op 13 (.op 14 (.op 15 (.op 16 (.op 17 (.op 18 (.op 19 (.op 20 (.op 21 (.op 22 (.op 23 (.op 24 (.op 25 (.op 26 (.op 27 (.op 28 (.op 29 (.op 30 (.op 31 (.op 32 (.nil)))))))))))))))))))))))))))))))))) panicOk_body mixed (by kernel_rfl) ?_
      repeat (first
        | refine x_move rfl rfl rfl (okq_reg rfl rfl) ?_
        | refine x_assign rfl rfl rfl (okq_reg rfl rfl) ?_
        | refine x_add rfl rfl rfl (wrap_i64 (by omega) (by omega)) rfl (okq_reg rfl rfl) ?_
        | refine x_sub_ rfl rfl rfl (wrap_i64 (by omega) (by omega)) rfl (okq_reg rfl rfl) ?_
        | refine x_mul rfl rfl rfl (wrap_i64 (by omega) (by omega)) rfl (okq_reg rfl rfl) ?_
        | refine x_ibin rfl rfl rfl rfl rfl (okq_reg rfl rfl) ?_
        | refine x_len rfl rfl (by assumption) rfl (okq_reg rfl rfl) ?_
        | refine x_pick_t rfl rfl rfl rfl (okq_reg rfl rfl) ?_
        | refine x_pick_f rfl rfl rfl rfl (okq_reg rfl rfl) ?_
        | refine x_not rfl rfl rfl (okq_reg rfl rfl) ?_
        | refine x_extract rfl rfl rfl rfl (okq_reg rfl rfl) ?_
        | refine x_nilCheck rfl rfl rfl (okq_reg rfl rfl) ?_
        | refine x_fieldAddr rfl rfl rfl rfl (okq_reg rfl rfl) ?_
        | refine x_skip (okq_reg rfl rfl) rfl rfl rfl ?_
        | refine x_indexAddr1 rfl rfl rfl (by assumption) (by omega) (by omega) rfl (okq_reg rfl rfl) ?_
        | refine x_nil ?_
        | refine cw_seq ?_
        | refine nw_seq ?_
        | refine nw_block ?_
        | refine cw_block ?_
        | refine cw_skip ?_
        | refine cw_region ?_
        | refine cw_exit rfl ?_
        | refine cw_true rfl ?_
        | refine cw_false rfl ?_)
      refine x_slice_h rfl rfl rfl (by assumption) (by omega) (by omega) rfl (okq_reg rfl rfl) ?_
      intro u3 hu3 hcut3
      have hU3 := hV2.cut (a := 0) (b := c) (by simpa using hu3) hcut3 (by omega) hc
      rw [List.drop_zero] at hU3
      repeat (first
        | refine x_move rfl rfl rfl (okq_reg rfl rfl) ?_
        | refine x_assign rfl rfl rfl (okq_reg rfl rfl) ?_
        | refine x_add rfl rfl rfl (wrap_i64 (by omega) (by omega)) rfl (okq_reg rfl rfl) ?_
        | refine x_sub_ rfl rfl rfl (wrap_i64 (by omega) (by omega)) rfl (okq_reg rfl rfl) ?_
        | refine x_mul rfl rfl rfl (wrap_i64 (by omega) (by omega)) rfl (okq_reg rfl rfl) ?_
        | refine x_ibin rfl rfl rfl rfl rfl (okq_reg rfl rfl) ?_
        | refine x_len rfl rfl (by assumption) rfl (okq_reg rfl rfl) ?_
        | refine x_pick_t rfl rfl rfl rfl (okq_reg rfl rfl) ?_
        | refine x_pick_f rfl rfl rfl rfl (okq_reg rfl rfl) ?_
        | refine x_not rfl rfl rfl (okq_reg rfl rfl) ?_
        | refine x_extract rfl rfl rfl rfl (okq_reg rfl rfl) ?_
        | refine x_nilCheck rfl rfl rfl (okq_reg rfl rfl) ?_
        | refine x_fieldAddr rfl rfl rfl rfl (okq_reg rfl rfl) ?_
        | refine x_skip (okq_reg rfl rfl) rfl rfl rfl ?_
        | refine x_indexAddr1 rfl rfl rfl (by assumption) (by omega) (by omega) rfl (okq_reg rfl rfl) ?_
        | refine x_nil ?_
        | refine cw_seq ?_
        | refine nw_seq ?_
        | refine nw_block ?_
        | refine cw_block ?_
        | refine cw_skip ?_
        | refine cw_region ?_
        | refine cw_exit rfl ?_
        | refine cw_true rfl ?_
        | refine cw_false rfl ?_)
      refine x_slice_l rfl rfl rfl (by assumption) (by omega) (by omega) rfl (okq_reg rfl rfl) ?_
      intro u4 hu4 hcut4
      have hU4 := hV2.cut (a := c) (b := l.length) (by simpa using hu4) hcut4 hc (Nat.le_refl _)
      rw [List.take_length] at hU4
      repeat (first
        | refine x_move rfl rfl rfl (okq_reg rfl rfl) ?_
        | refine x_assign rfl rfl rfl (okq_reg rfl rfl) ?_
        | refine x_add rfl rfl rfl (wrap_i64 (by omega) (by omega)) rfl (okq_reg rfl rfl) ?_
        | refine x_sub_ rfl rfl rfl (wrap_i64 (by omega) (by omega)) rfl (okq_reg rfl rfl) ?_
        | refine x_mul rfl rfl rfl (wrap_i64 (by omega) (by omega)) rfl (okq_reg rfl rfl) ?_
        | refine x_ibin rfl rfl rfl rfl rfl (okq_reg rfl rfl) ?_
        | refine x_len rfl rfl (by assumption) rfl (okq_reg rfl rfl) ?_
        | refine x_pick_t rfl rfl rfl rfl (okq_reg rfl rfl) ?_
        | refine x_pick_f rfl rfl rfl rfl (okq_reg rfl rfl) ?_
        | refine x_not rfl rfl rfl (okq_reg rfl rfl) ?_
        | refine x_extract rfl rfl rfl rfl (okq_reg rfl rfl) ?_
        | refine x_nilCheck rfl rfl rfl (okq_reg rfl rfl) ?_
        | refine x_fieldAddr rfl rfl rfl rfl (okq_reg rfl rfl) ?_
        | refine x_skip (okq_reg rfl rfl) rfl rfl rfl ?_
        | refine x_indexAddr1 rfl rfl rfl (by assumption) (by omega) (by omega) rfl (okq_reg rfl rfl) ?_
        | refine x_nil ?_
        | refine cw_seq ?_
        | refine nw_seq ?_
        | refine nw_block ?_
        | refine cw_block ?_
        | refine cw_skip ?_
        | refine cw_region ?_
        | refine cw_exit rfl ?_
        | refine cw_true rfl ?_
        | refine cw_false rfl ?_)
      have hsum : needSum tag l = needSum tag (l.take c) + needSum tag (l.drop c) := by rw [← needSum_append, List.take_append_drop]
      have hb1 := needSum_bd tag (l.take c)
      have hb2 := needSum_bd tag (l.drop c)
      refine x_call rfl rfl rfl ⟨rfl, rfl⟩ (need_Build tag hU3 (by simp; omega)) ?_
      rintro _ _ ⟨rfl, rfl⟩
      refine ⟨okm_nil rfl, ?_⟩
      repeat (first
        | refine x_move rfl rfl rfl (okq_reg rfl rfl) ?_
        | refine x_assign rfl rfl rfl (okq_reg rfl rfl) ?_
        | refine x_add rfl rfl rfl (wrap_i64 (by omega) (by omega)) rfl (okq_reg rfl rfl) ?_
        | refine x_sub_ rfl rfl rfl (wrap_i64 (by omega) (by omega)) rfl (okq_reg rfl rfl) ?_
        | refine x_mul rfl rfl rfl (wrap_i64 (by omega) (by omega)) rfl (okq_reg rfl rfl) ?_
        | refine x_ibin rfl rfl rfl rfl rfl (okq_reg rfl rfl) ?_
        | refine x_len rfl rfl (by assumption) rfl (okq_reg rfl rfl) ?_
        | refine x_pick_t rfl rfl rfl rfl (okq_reg rfl rfl) ?_
        | refine x_pick_f rfl rfl rfl rfl (okq_reg rfl rfl) ?_
        | refine x_not rfl rfl rfl (okq_reg rfl rfl) ?_
        | refine x_extract rfl rfl rfl rfl (okq_reg rfl rfl) ?_
        | refine x_nilCheck rfl rfl rfl (okq_reg rfl rfl) ?_
        | refine x_fieldAddr rfl rfl rfl rfl (okq_reg rfl rfl) ?_
        | refine x_skip (okq_reg rfl rfl) rfl rfl rfl ?_
        | refine x_indexAddr1 rfl rfl rfl (by assumption) (by omega) (by omega) rfl (okq_reg rfl rfl) ?_
        | refine x_nil ?_
        | refine cw_seq ?_
        | refine nw_seq ?_
        | refine nw_block ?_
        | refine cw_block ?_
        | refine cw_skip ?_
        | refine cw_region ?_
        | refine cw_exit rfl ?_
        | refine cw_true rfl ?_
        | refine cw_false rfl ?_)
      refine x_call rfl rfl rfl ⟨rfl, rfl⟩ (need_Build tag hU4 (by simp; omega)) ?_
      rintro _ _ ⟨rfl, rfl⟩
      refine ⟨okm_nil rfl, ?_⟩
      repeat (first
        | refine x_move rfl rfl rfl (okq_reg rfl rfl) ?_
        | refine x_assign rfl rfl rfl (okq_reg rfl rfl) ?_
        | refine x_add rfl rfl rfl (wrap_i64 (by omega) (by omega)) rfl (okq_reg rfl rfl) ?_
        | refine x_sub_ rfl rfl rfl (wrap_i64 (by omega) (by omega)) rfl (okq_reg rfl rfl) ?_
        | refine x_mul rfl rfl rfl (wrap_i64 (by omega) (by omega)) rfl (okq_reg rfl rfl) ?_
        | refine x_ibin rfl rfl rfl rfl rfl (okq_reg rfl rfl) ?_
        | refine x_len rfl rfl (by assumption) rfl (okq_reg rfl rfl) ?_
        | refine x_pick_t rfl rfl rfl rfl (okq_reg rfl rfl) ?_
        | refine x_pick_f rfl rfl rfl rfl (okq_reg rfl rfl) ?_
        | refine x_not rfl rfl rfl (okq_reg rfl rfl) ?_
        | refine x_extract rfl rfl rfl rfl (okq_reg rfl rfl) ?_
        | refine x_nilCheck rfl rfl rfl (okq_reg rfl rfl) ?_
        | refine x_fieldAddr rfl rfl rfl rfl (okq_reg rfl rfl) ?_
        | refine x_skip (okq_reg rfl rfl) rfl rfl rfl ?_
        | refine x_indexAddr1 rfl rfl rfl (by assumption) (by omega) (by omega) rfl (okq_reg rfl rfl) ?_
        | refine x_nil ?_
        | refine cw_seq ?_
        | refine nw_seq ?_
        | refine nw_block ?_
        | refine cw_block ?_
        | refine cw_skip ?_
        | refine cw_region ?_
        | refine cw_exit rfl ?_
        | refine cw_true rfl ?_
        | refine cw_false rfl ?_)
      refine x_true 58 rfl (by simp; omega) ?_
      repeat (first
        | refine x_move rfl rfl rfl (okq_reg rfl rfl) ?_
        | refine x_assign rfl rfl rfl (okq_reg rfl rfl) ?_
        | refine x_add rfl rfl rfl (wrap_i64 (by omega) (by omega)) rfl (okq_reg rfl rfl) ?_
        | refine x_sub_ rfl rfl rfl (wrap_i64 (by omega) (by omega)) rfl (okq_reg rfl rfl) ?_
        | refine x_mul rfl rfl rfl (wrap_i64 (by omega) (by omega)) rfl (okq_reg rfl rfl) ?_
        | refine x_ibin rfl rfl rfl rfl rfl (okq_reg rfl rfl) ?_
        | refine x_len rfl rfl (by assumption) rfl (okq_reg rfl rfl) ?_
        | refine x_pick_t rfl rfl rfl rfl (okq_reg rfl rfl) ?_
        | refine x_pick_f rfl rfl rfl rfl (okq_reg rfl rfl) ?_
        | refine x_not rfl rfl rfl (okq_reg rfl rfl) ?_
        | refine x_extract rfl rfl rfl rfl (okq_reg rfl rfl) ?_
        | refine x_nilCheck rfl rfl rfl (okq_reg rfl rfl) ?_
        | refine x_fieldAddr rfl rfl rfl rfl (okq_reg rfl rfl) ?_
        | refine x_skip (okq_reg rfl rfl) rfl rfl rfl ?_
        | refine x_indexAddr1 rfl rfl rfl (by assumption) (by omega) (by omega) rfl (okq_reg rfl rfl) ?_
        | refine x_nil ?_
        | refine cw_seq ?_
        | refine nw_seq ?_
        | refine nw_block ?_
        | refine cw_block ?_
        | refine cw_skip ?_
        | refine cw_region ?_
        | refine cw_exit rfl ?_
        | refine cw_true rfl ?_
        | refine cw_false rfl ?_)
      refine x_call rfl rfl rfl ⟨rfl, rfl⟩ (need_Build tag hW (by simp; omega)) ?_
      rintro _ _ ⟨rfl, rfl⟩
      refine ⟨okm_nil rfl, ?_⟩
      repeat (first
        | refine x_move rfl rfl rfl (okq_reg rfl rfl) ?_
        | refine x_assign rfl rfl rfl (okq_reg rfl rfl) ?_
        | refine x_add rfl rfl rfl (wrap_i64 (by omega) (by omega)) rfl (okq_reg rfl rfl) ?_
        | refine x_sub_ rfl rfl rfl (wrap_i64 (by omega) (by omega)) rfl (okq_reg rfl rfl) ?_
        | refine x_mul rfl rfl rfl (wrap_i64 (by omega) (by omega)) rfl (okq_reg rfl rfl) ?_
        | refine x_ibin rfl rfl rfl rfl rfl (okq_reg rfl rfl) ?_
        | refine x_len rfl rfl (by assumption) rfl (okq_reg rfl rfl) ?_
        | refine x_pick_t rfl rfl rfl rfl (okq_reg rfl rfl) ?_
        | refine x_pick_f rfl rfl rfl rfl (okq_reg rfl rfl) ?_
        | refine x_not rfl rfl rfl (okq_reg rfl rfl) ?_
        | refine x_extract rfl rfl rfl rfl (okq_reg rfl rfl) ?_
        | refine x_nilCheck rfl rfl rfl (okq_reg rfl rfl) ?_
        | refine x_fieldAddr rfl rfl rfl rfl (okq_reg rfl rfl) ?_
        | refine x_skip (okq_reg rfl rfl) rfl rfl rfl ?_
        | refine x_indexAddr1 rfl rfl rfl (by assumption) (by omega) (by omega) rfl (okq_reg rfl rfl) ?_
        | refine x_nil ?_
        | refine cw_seq ?_
        | refine nw_seq ?_
        | refine nw_block ?_
        | refine cw_block ?_
        | refine cw_skip ?_
        | refine cw_region ?_
        | refine cw_exit rfl ?_
        | refine cw_true rfl ?_
        | refine cw_false rfl ?_)
      refine x_true 65 rfl (by simp [needSum_append]; omega) ?_
      repeat (first
        | refine x_move rfl rfl rfl (okq_reg rfl rfl) ?_
        | refine x_assign rfl rfl rfl (okq_reg rfl rfl) ?_
        | refine x_add rfl rfl rfl (wrap_i64 (by omega) (by omega)) rfl (okq_reg rfl rfl) ?_
        | refine x_sub_ rfl rfl rfl (wrap_i64 (by omega) (by omega)) rfl (okq_reg rfl rfl) ?_
        | refine x_mul rfl rfl rfl (wrap_i64 (by omega) (by omega)) rfl (okq_reg rfl rfl) ?_
        | refine x_ibin rfl rfl rfl rfl rfl (okq_reg rfl rfl) ?_
        | refine x_len rfl rfl (by assumption) rfl (okq_reg rfl rfl) ?_
        | refine x_pick_t rfl rfl rfl rfl (okq_reg rfl rfl) ?_
        | refine x_pick_f rfl rfl rfl rfl (okq_reg rfl rfl) ?_
        | refine x_not rfl rfl rfl (okq_reg rfl rfl) ?_
        | refine x_extract rfl rfl rfl rfl (okq_reg rfl rfl) ?_
        | refine x_nilCheck rfl rfl rfl (okq_reg rfl rfl) ?_
        | refine x_fieldAddr rfl rfl rfl rfl (okq_reg rfl rfl) ?_
        | refine x_skip (okq_reg rfl rfl) rfl rfl rfl ?_
        | refine x_indexAddr1 rfl rfl rfl (by assumption) (by omega) (by omega) rfl (okq_reg rfl rfl) ?_
        | refine x_nil ?_
        | refine cw_seq ?_
        | refine nw_seq ?_
        | refine nw_block ?_
        | refine cw_block ?_
        | refine cw_skip ?_
        | refine cw_region ?_
        | refine cw_exit rfl ?_
        | refine cw_true rfl ?_
        | refine cw_false rfl ?_)
      refine x_true 70 rfl (by simp) ?_
      repeat (first
        | refine x_move rfl rfl rfl (okq_reg rfl rfl) ?_
        | refine x_assign rfl rfl rfl (okq_reg rfl rfl) ?_
        | refine x_add rfl rfl rfl (wrap_i64 (by omega) (by omega)) rfl (okq_reg rfl rfl) ?_
        | refine x_sub_ rfl rfl rfl (wrap_i64 (by omega) (by omega)) rfl (okq_reg rfl rfl) ?_
        | refine x_mul rfl rfl rfl (wrap_i64 (by omega) (by omega)) rfl (okq_reg rfl rfl) ?_
        | refine x_ibin rfl rfl rfl rfl rfl (okq_reg rfl rfl) ?_
        | refine x_len rfl rfl (by assumption) rfl (okq_reg rfl rfl) ?_
        | refine x_pick_t rfl rfl rfl rfl (okq_reg rfl rfl) ?_
        | refine x_pick_f rfl rfl rfl rfl (okq_reg rfl rfl) ?_
        | refine x_not rfl rfl rfl (okq_reg rfl rfl) ?_
        | refine x_extract rfl rfl rfl rfl (okq_reg rfl rfl) ?_
        | refine x_nilCheck rfl rfl rfl (okq_reg rfl rfl) ?_
        | refine x_fieldAddr rfl rfl rfl rfl (okq_reg rfl rfl) ?_
        | refine x_skip (okq_reg rfl rfl) rfl rfl rfl ?_
        | refine x_indexAddr1 rfl rfl rfl (by assumption) (by omega) (by omega) rfl (okq_reg rfl rfl) ?_
        | refine x_nil ?_
        | refine cw_seq ?_
        | refine nw_seq ?_
        | refine nw_block ?_
        | refine cw_block ?_
        | refine cw_skip ?_
        | refine cw_region ?_
        | refine cw_exit rfl ?_
        | refine cw_true rfl ?_
        | refine cw_false rfl ?_)
      refine x_true 74 rfl (by simp; omega) ?_
      repeat (first
        | refine x_move rfl rfl rfl (okq_reg rfl rfl) ?_
        | refine x_assign rfl rfl rfl (okq_reg rfl rfl) ?_
        | refine x_add rfl rfl rfl (wrap_i64 (by omega) (by omega)) rfl (okq_reg rfl rfl) ?_
        | refine x_sub_ rfl rfl rfl (wrap_i64 (by omega) (by omega)) rfl (okq_reg rfl rfl) ?_
        | refine x_mul rfl rfl rfl (wrap_i64 (by omega) (by omega)) rfl (okq_reg rfl rfl) ?_
        | refine x_ibin rfl rfl rfl rfl rfl (okq_reg rfl rfl) ?_
        | refine x_len rfl rfl (by assumption) rfl (okq_reg rfl rfl) ?_
        | refine x_pick_t rfl rfl rfl rfl (okq_reg rfl rfl) ?_
        | refine x_pick_f rfl rfl rfl rfl (okq_reg rfl rfl) ?_
        | refine x_not rfl rfl rfl (okq_reg rfl rfl) ?_
        | refine x_extract rfl rfl rfl rfl (okq_reg rfl rfl) ?_
        | refine x_nilCheck rfl rfl rfl (okq_reg rfl rfl) ?_
        | refine x_fieldAddr rfl rfl rfl rfl (okq_reg rfl rfl) ?_
        | refine x_skip (okq_reg rfl rfl) rfl rfl rfl ?_
        | refine x_indexAddr1 rfl rfl rfl (by assumption) (by omega) (by omega) rfl (okq_reg rfl rfl) ?_
        | refine x_nil ?_
        | refine cw_seq ?_
        | refine nw_seq ?_
        | refine nw_block ?_
        | refine cw_block ?_
        | refine cw_skip ?_
        | refine cw_region ?_
        | refine cw_exit rfl ?_
        | refine cw_true rfl ?_
        | refine cw_false rfl ?_)
      refine x_call rfl rfl rfl ⟨rfl, rfl⟩ (awake10 H2) ?_
      rintro _ H4 ⟨rfl, hk⟩
      refine ⟨okm_nil rfl, ?_⟩
      repeat (first
        | refine x_move rfl rfl rfl (okq_reg rfl rfl) ?_
        | refine x_assign rfl rfl rfl (okq_reg rfl rfl) ?_
        | refine x_add rfl rfl rfl (wrap_i64 (by omega) (by omega)) rfl (okq_reg rfl rfl) ?_
        | refine x_sub_ rfl rfl rfl (wrap_i64 (by omega) (by omega)) rfl (okq_reg rfl rfl) ?_
        | refine x_mul rfl rfl rfl (wrap_i64 (by omega) (by omega)) rfl (okq_reg rfl rfl) ?_
        | refine x_ibin rfl rfl rfl rfl rfl (okq_reg rfl rfl) ?_
        | refine x_len rfl rfl (by assumption) rfl (okq_reg rfl rfl) ?_
        | refine x_pick_t rfl rfl rfl rfl (okq_reg rfl rfl) ?_
        | refine x_pick_f rfl rfl rfl rfl (okq_reg rfl rfl) ?_
        | refine x_not rfl rfl rfl (okq_reg rfl rfl) ?_
        | refine x_extract rfl rfl rfl rfl (okq_reg rfl rfl) ?_
        | refine x_nilCheck rfl rfl rfl (okq_reg rfl rfl) ?_
        | refine x_fieldAddr rfl rfl rfl rfl (okq_reg rfl rfl) ?_
        | refine x_skip (okq_reg rfl rfl) rfl rfl rfl ?_
        | refine x_indexAddr1 rfl rfl rfl (by assumption) (by omega) (by omega) rfl (okq_reg rfl rfl) ?_
        | refine x_nil ?_
        | refine cw_seq ?_
        | refine nw_seq ?_
        | refine nw_block ?_
        | refine cw_block ?_
        | refine cw_skip ?_
        | refine cw_region ?_
        | refine cw_exit rfl ?_
        | refine cw_true rfl ?_
        | refine cw_false rfl ?_)
      repeat (first
        | refine x_move rfl rfl rfl trivial ?_
        | refine x_assign rfl rfl rfl trivial ?_
        | refine x_add rfl rfl rfl (wrap_i64 (by omega) (by omega)) rfl trivial ?_
        | refine x_sub_ rfl rfl rfl (wrap_i64 (by omega) (by omega)) rfl trivial ?_
        | refine x_mul rfl rfl rfl (wrap_i64 (by omega) (by omega)) rfl trivial ?_
        | refine x_ibin rfl rfl rfl rfl rfl trivial ?_
        | refine x_len rfl rfl (by assumption) rfl trivial ?_
        | refine x_pick_t rfl rfl rfl rfl trivial ?_
        | refine x_pick_f rfl rfl rfl rfl trivial ?_
        | refine x_not rfl rfl rfl trivial ?_
        | refine x_extract rfl rfl rfl rfl trivial ?_
        | refine x_nilCheck rfl rfl rfl trivial ?_
        | refine x_fieldAddr rfl rfl rfl rfl trivial ?_
        | refine x_skip trivial rfl rfl rfl ?_
        | refine x_indexAddr1 rfl rfl rfl (by assumption) (by omega) (by omega) rfl trivial ?_
        | refine x_nil ?_
        | refine cw_seq ?_
        | refine nw_seq ?_
        | refine nw_block ?_
        | refine cw_block ?_
        | refine cw_skip ?_
        | refine cw_region ?_
        | refine cw_exit rfl ?_
        | refine cw_true rfl ?_
        | refine cw_false rfl ?_)
      exact cw_ret1 rfl rfl ⟨rfl, hk2.non_trans hk⟩
end Go.Proofs.Ytopfmnkohfcggaa.X
