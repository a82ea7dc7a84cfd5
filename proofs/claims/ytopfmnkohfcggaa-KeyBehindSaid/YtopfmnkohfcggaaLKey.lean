/- The statements on key: the walks. -/
import Derived.Test.YtopfmnkohfcggaaNeed
import Derived.Test.YtopfmnkohfcggaaBys
namespace Go.Proofs.Ytopfmnkohfcggaa.X
open Go Go.Proofs
set_option linter.unusedVariables false
set_option maxRecDepth 10000

theorem differ_bd (a b : Bytes) : -1 ≤ differ a b ∧ differ a b ≤ 9 * (max a.length b.length : Nat) ∧ (differ a b < 0 ↔ a = b) := by
  by_cases h : a = b
  · subst h
    rw [differ_self]
    simp
    omega
  · obtain ⟨d, hd, h1, h2, h3, _⟩ := differ_spec h
    rw [hd]
    refine ⟨by omega, by omega, fun e => by omega, fun e => absurd e h⟩

theorem walk_KeyBits {va vb : Value} {la lb : Bytes} {H : Heap} (hA : Bs H va la) (hB : Bs H vb lb) :
    Ret Try.prog 5 [va, vb] H (Yes H) := by
  have sA := hA.sl
  have cA := sA.cap
  have sB := hB.sl
  have cB := sB.cap
  refine ret_of Try.func5 rfl rfl rfl rfl ?_
  intro w0
  repeat (first
    | refine x_move rfl rfl rfl trivial ?_
    | refine x_assign rfl rfl rfl trivial ?_
    | refine x_add rfl rfl rfl (wrap_i64 (by omega) (by omega)) rfl trivial ?_
    | refine x_sub_ rfl rfl rfl (wrap_i64 (by omega) (by omega)) rfl trivial ?_
    | refine x_mul rfl rfl rfl (wrap_i64 (by omega) (by omega)) rfl trivial ?_
    | refine x_ibin rfl rfl rfl rfl rfl trivial ?_
    | refine x_neg_ rfl rfl (wrap_i64 (by omega) (by omega)) rfl trivial ?_
    | refine x_len rfl rfl (by assumption) rfl trivial ?_
    | refine x_pick_t rfl rfl rfl rfl trivial ?_
    | refine x_pick_f rfl rfl rfl rfl trivial ?_
    | refine x_not rfl rfl rfl trivial ?_
    | refine x_extract rfl rfl rfl rfl trivial ?_
    | refine x_nilCheck rfl rfl rfl trivial ?_
    | refine x_fieldAddr rfl rfl rfl rfl trivial ?_
    | refine x_skip trivial rfl rfl rfl ?_
    | refine x_indexAddr1 rfl rfl rfl (by assumption) (by omega) (by omega) rfl trivial ?_
    | refine x_nil ?_
    | refine cw_seq ?_
    | refine nw_seq ?_
    | refine nw_block ?_
    | refine cw_block ?_
    | refine cw_skip ?_
    | refine cw_region ?_
    | refine cw_exit rfl ?_
    | refine cw_true rfl ?_
    | refine cw_false rfl ?_)
  refine x_split 11 rfl (fun h1 => ?_) (fun h1 => ?_) <;> (try simp at h1)
  · repeat (first
      | refine x_move rfl rfl rfl trivial ?_
      | refine x_assign rfl rfl rfl trivial ?_
      | refine x_add rfl rfl rfl (wrap_i64 (by omega) (by omega)) rfl trivial ?_
      | refine x_sub_ rfl rfl rfl (wrap_i64 (by omega) (by omega)) rfl trivial ?_
      | refine x_mul rfl rfl rfl (wrap_i64 (by omega) (by omega)) rfl trivial ?_
      | refine x_ibin rfl rfl rfl rfl rfl trivial ?_
      | refine x_neg_ rfl rfl (wrap_i64 (by omega) (by omega)) rfl trivial ?_
      | refine x_len rfl rfl (by assumption) rfl trivial ?_
      | refine x_pick_t rfl rfl rfl rfl trivial ?_
      | refine x_pick_f rfl rfl rfl rfl trivial ?_
      | refine x_not rfl rfl rfl trivial ?_
      | refine x_extract rfl rfl rfl rfl trivial ?_
      | refine x_nilCheck rfl rfl rfl trivial ?_
      | refine x_fieldAddr rfl rfl rfl rfl trivial ?_
      | refine x_skip trivial rfl rfl rfl ?_
      | refine x_indexAddr1 rfl rfl rfl (by assumption) (by omega) (by omega) rfl trivial ?_
      | refine x_nil ?_
      | refine cw_seq ?_
      | refine nw_seq ?_
      | refine nw_block ?_
      | refine cw_block ?_
      | refine cw_skip ?_
      | refine cw_region ?_
      | refine cw_exit rfl ?_
      | refine cw_true rfl ?_
      | refine cw_false rfl ?_)
    refine x_call rfl rfl rfl trivial (awake1 _) ?_
    rintro _ Hz ⟨rfl, hkz⟩
    refine ⟨trivial, ?_⟩
    repeat (first
      | refine x_move rfl rfl rfl trivial ?_
      | refine x_assign rfl rfl rfl trivial ?_
      | refine x_add rfl rfl rfl (wrap_i64 (by omega) (by omega)) rfl trivial ?_
      | refine x_sub_ rfl rfl rfl (wrap_i64 (by omega) (by omega)) rfl trivial ?_
      | refine x_mul rfl rfl rfl (wrap_i64 (by omega) (by omega)) rfl trivial ?_
      | refine x_ibin rfl rfl rfl rfl rfl trivial ?_
      | refine x_neg_ rfl rfl (wrap_i64 (by omega) (by omega)) rfl trivial ?_
      | refine x_len rfl rfl (by assumption) rfl trivial ?_
      | refine x_pick_t rfl rfl rfl rfl trivial ?_
      | refine x_pick_f rfl rfl rfl rfl trivial ?_
      | refine x_not rfl rfl rfl trivial ?_
      | refine x_extract rfl rfl rfl rfl trivial ?_
      | refine x_nilCheck rfl rfl rfl trivial ?_
      | refine x_fieldAddr rfl rfl rfl rfl trivial ?_
      | refine x_skip trivial rfl rfl rfl ?_
      | refine x_indexAddr1 rfl rfl rfl (by assumption) (by omega) (by omega) rfl trivial ?_
      | refine x_nil ?_
      | refine cw_seq ?_
      | refine nw_seq ?_
      | refine nw_block ?_
      | refine cw_block ?_
      | refine cw_skip ?_
      | refine cw_region ?_
      | refine cw_exit rfl ?_
      | refine cw_true rfl ?_
      | refine cw_false rfl ?_)
    exact cw_ret1 rfl rfl ⟨rfl, (Keep.refl Non H).non_trans hkz⟩
  repeat (first
    | refine x_move rfl rfl rfl trivial ?_
    | refine x_assign rfl rfl rfl trivial ?_
    | refine x_add rfl rfl rfl (wrap_i64 (by omega) (by omega)) rfl trivial ?_
    | refine x_sub_ rfl rfl rfl (wrap_i64 (by omega) (by omega)) rfl trivial ?_
    | refine x_mul rfl rfl rfl (wrap_i64 (by omega) (by omega)) rfl trivial ?_
    | refine x_ibin rfl rfl rfl rfl rfl trivial ?_
    | refine x_neg_ rfl rfl (wrap_i64 (by omega) (by omega)) rfl trivial ?_
    | refine x_len rfl rfl (by assumption) rfl trivial ?_
    | refine x_pick_t rfl rfl rfl rfl trivial ?_
    | refine x_pick_f rfl rfl rfl rfl trivial ?_
    | refine x_not rfl rfl rfl trivial ?_
    | refine x_extract rfl rfl rfl rfl trivial ?_
    | refine x_nilCheck rfl rfl rfl trivial ?_
    | refine x_fieldAddr rfl rfl rfl rfl trivial ?_
    | refine x_skip trivial rfl rfl rfl ?_
    | refine x_indexAddr1 rfl rfl rfl (by assumption) (by omega) (by omega) rfl trivial ?_
    | refine x_nil ?_
    | refine cw_seq ?_
    | refine nw_seq ?_
    | refine nw_block ?_
    | refine cw_block ?_
    | refine cw_skip ?_
    | refine cw_region ?_
    | refine cw_exit rfl ?_
    | refine cw_true rfl ?_
    | refine cw_false rfl ?_)
  refine cw_cond rfl (fun h2 => ?_) (fun h2 => ?_) <;> (try simp at h2)
  · repeat (first
      | refine x_move rfl rfl rfl trivial ?_
      | refine x_assign rfl rfl rfl trivial ?_
      | refine x_add rfl rfl rfl (wrap_i64 (by omega) (by omega)) rfl trivial ?_
      | refine x_sub_ rfl rfl rfl (wrap_i64 (by omega) (by omega)) rfl trivial ?_
      | refine x_mul rfl rfl rfl (wrap_i64 (by omega) (by omega)) rfl trivial ?_
      | refine x_ibin rfl rfl rfl rfl rfl trivial ?_
      | refine x_neg_ rfl rfl (wrap_i64 (by omega) (by omega)) rfl trivial ?_
      | refine x_len rfl rfl (by assumption) rfl trivial ?_
      | refine x_pick_t rfl rfl rfl rfl trivial ?_
      | refine x_pick_f rfl rfl rfl rfl trivial ?_
      | refine x_not rfl rfl rfl trivial ?_
      | refine x_extract rfl rfl rfl rfl trivial ?_
      | refine x_nilCheck rfl rfl rfl trivial ?_
      | refine x_fieldAddr rfl rfl rfl rfl trivial ?_
      | refine x_skip trivial rfl rfl rfl ?_
      | refine x_indexAddr1 rfl rfl rfl (by assumption) (by omega) (by omega) rfl trivial ?_
      | refine x_nil ?_
      | refine cw_seq ?_
      | refine nw_seq ?_
      | refine nw_block ?_
      | refine cw_block ?_
      | refine cw_skip ?_
      | refine cw_region ?_
      | refine cw_exit rfl ?_
      | refine cw_true rfl ?_
      | refine cw_false rfl ?_)
    refine x_call rfl rfl rfl trivial (awake1 _) ?_
    rintro _ Hz ⟨rfl, hkz⟩
    refine ⟨trivial, ?_⟩
    repeat (first
      | refine x_move rfl rfl rfl trivial ?_
      | refine x_assign rfl rfl rfl trivial ?_
      | refine x_add rfl rfl rfl (wrap_i64 (by omega) (by omega)) rfl trivial ?_
      | refine x_sub_ rfl rfl rfl (wrap_i64 (by omega) (by omega)) rfl trivial ?_
      | refine x_mul rfl rfl rfl (wrap_i64 (by omega) (by omega)) rfl trivial ?_
      | refine x_ibin rfl rfl rfl rfl rfl trivial ?_
      | refine x_neg_ rfl rfl (wrap_i64 (by omega) (by omega)) rfl trivial ?_
      | refine x_len rfl rfl (by assumption) rfl trivial ?_
      | refine x_pick_t rfl rfl rfl rfl trivial ?_
      | refine x_pick_f rfl rfl rfl rfl trivial ?_
      | refine x_not rfl rfl rfl trivial ?_
      | refine x_extract rfl rfl rfl rfl trivial ?_
      | refine x_nilCheck rfl rfl rfl trivial ?_
      | refine x_fieldAddr rfl rfl rfl rfl trivial ?_
      | refine x_skip trivial rfl rfl rfl ?_
      | refine x_indexAddr1 rfl rfl rfl (by assumption) (by omega) (by omega) rfl trivial ?_
      | refine x_nil ?_
      | refine cw_seq ?_
      | refine nw_seq ?_
      | refine nw_block ?_
      | refine cw_block ?_
      | refine cw_skip ?_
      | refine cw_region ?_
      | refine cw_exit rfl ?_
      | refine cw_true rfl ?_
      | refine cw_false rfl ?_)
    exact cw_ret1 rfl rfl ⟨rfl, (Keep.refl Non H).non_trans hkz⟩
  · repeat (first
      | refine x_move rfl rfl rfl trivial ?_
      | refine x_assign rfl rfl rfl trivial ?_
      | refine x_add rfl rfl rfl (wrap_i64 (by omega) (by omega)) rfl trivial ?_
      | refine x_sub_ rfl rfl rfl (wrap_i64 (by omega) (by omega)) rfl trivial ?_
      | refine x_mul rfl rfl rfl (wrap_i64 (by omega) (by omega)) rfl trivial ?_
      | refine x_ibin rfl rfl rfl rfl rfl trivial ?_
      | refine x_neg_ rfl rfl (wrap_i64 (by omega) (by omega)) rfl trivial ?_
      | refine x_len rfl rfl (by assumption) rfl trivial ?_
      | refine x_pick_t rfl rfl rfl rfl trivial ?_
      | refine x_pick_f rfl rfl rfl rfl trivial ?_
      | refine x_not rfl rfl rfl trivial ?_
      | refine x_extract rfl rfl rfl rfl trivial ?_
      | refine x_nilCheck rfl rfl rfl trivial ?_
      | refine x_fieldAddr rfl rfl rfl rfl trivial ?_
      | refine x_skip trivial rfl rfl rfl ?_
      | refine x_indexAddr1 rfl rfl rfl (by assumption) (by omega) (by omega) rfl trivial ?_
      | refine x_nil ?_
      | refine cw_seq ?_
      | refine nw_seq ?_
      | refine nw_block ?_
      | refine cw_block ?_
      | refine cw_skip ?_
      | refine cw_region ?_
      | refine cw_exit rfl ?_
      | refine cw_true rfl ?_
      | refine cw_false rfl ?_)
    refine x_call rfl rfl rfl trivial (key_Differ hA hB (by omega)) ?_
    rintro _ _ ⟨rfl, rfl⟩
    refine ⟨trivial, ?_⟩
    repeat (first
      | refine x_move rfl rfl rfl trivial ?_
      | refine x_assign rfl rfl rfl trivial ?_
      | refine x_add rfl rfl rfl (wrap_i64 (by omega) (by omega)) rfl trivial ?_
      | refine x_sub_ rfl rfl rfl (wrap_i64 (by omega) (by omega)) rfl trivial ?_
      | refine x_mul rfl rfl rfl (wrap_i64 (by omega) (by omega)) rfl trivial ?_
      | refine x_ibin rfl rfl rfl rfl rfl trivial ?_
      | refine x_neg_ rfl rfl (wrap_i64 (by omega) (by omega)) rfl trivial ?_
      | refine x_len rfl rfl (by assumption) rfl trivial ?_
      | refine x_pick_t rfl rfl rfl rfl trivial ?_
      | refine x_pick_f rfl rfl rfl rfl trivial ?_
      | refine x_not rfl rfl rfl trivial ?_
      | refine x_extract rfl rfl rfl rfl trivial ?_
      | refine x_nilCheck rfl rfl rfl trivial ?_
      | refine x_fieldAddr rfl rfl rfl rfl trivial ?_
      | refine x_skip trivial rfl rfl rfl ?_
      | refine x_indexAddr1 rfl rfl rfl (by assumption) (by omega) (by omega) rfl trivial ?_
      | refine x_nil ?_
      | refine cw_seq ?_
      | refine nw_seq ?_
      | refine nw_block ?_
      | refine cw_block ?_
      | refine cw_skip ?_
      | refine cw_region ?_
      | refine cw_exit rfl ?_
      | refine cw_true rfl ?_
      | refine cw_false rfl ?_)
    refine x_call rfl rfl rfl trivial (key_Compare hA hB) ?_
    rintro _ _ ⟨rfl, rfl⟩
    refine ⟨trivial, ?_⟩
    have hd := differ_bd la lb
    have hc3 := cmp_eq3 la lb
    have hanti := cmp_anti la lb
    repeat (first
      | refine x_move rfl rfl rfl trivial ?_
      | refine x_assign rfl rfl rfl trivial ?_
      | refine x_add rfl rfl rfl (wrap_i64 (by omega) (by omega)) rfl trivial ?_
      | refine x_sub_ rfl rfl rfl (wrap_i64 (by omega) (by omega)) rfl trivial ?_
      | refine x_mul rfl rfl rfl (wrap_i64 (by omega) (by omega)) rfl trivial ?_
      | refine x_ibin rfl rfl rfl rfl rfl trivial ?_
      | refine x_neg_ rfl rfl (wrap_i64 (by omega) (by omega)) rfl trivial ?_
      | refine x_len rfl rfl (by assumption) rfl trivial ?_
      | refine x_pick_t rfl rfl rfl rfl trivial ?_
      | refine x_pick_f rfl rfl rfl rfl trivial ?_
      | refine x_not rfl rfl rfl trivial ?_
      | refine x_extract rfl rfl rfl rfl trivial ?_
      | refine x_nilCheck rfl rfl rfl trivial ?_
      | refine x_fieldAddr rfl rfl rfl rfl trivial ?_
      | refine x_skip trivial rfl rfl rfl ?_
      | refine x_indexAddr1 rfl rfl rfl (by assumption) (by omega) (by omega) rfl trivial ?_
      | refine x_nil ?_
      | refine cw_seq ?_
      | refine nw_seq ?_
      | refine nw_block ?_
      | refine cw_block ?_
      | refine cw_skip ?_
      | refine cw_region ?_
      | refine cw_exit rfl ?_
      | refine cw_true rfl ?_
      | refine cw_false rfl ?_)
    by_cases hab : la = lb
    · subst hab
      rw [differ_self, cmp_self]
      refine cw_cond rfl (fun h2 => ?_) (fun h2 => absurd h2 (by decide))
      repeat (first
        | refine x_move rfl rfl rfl trivial ?_
        | refine x_assign rfl rfl rfl trivial ?_
        | refine x_add rfl rfl rfl (wrap_i64 (by omega) (by omega)) rfl trivial ?_
        | refine x_sub_ rfl rfl rfl (wrap_i64 (by omega) (by omega)) rfl trivial ?_
        | refine x_mul rfl rfl rfl (wrap_i64 (by omega) (by omega)) rfl trivial ?_
        | refine x_ibin rfl rfl rfl rfl rfl trivial ?_
        | refine x_neg_ rfl rfl (wrap_i64 (by omega) (by omega)) rfl trivial ?_
        | refine x_len rfl rfl (by assumption) rfl trivial ?_
        | refine x_pick_t rfl rfl rfl rfl trivial ?_
        | refine x_pick_f rfl rfl rfl rfl trivial ?_
        | refine x_not rfl rfl rfl trivial ?_
        | refine x_extract rfl rfl rfl rfl trivial ?_
        | refine x_nilCheck rfl rfl rfl trivial ?_
        | refine x_fieldAddr rfl rfl rfl rfl trivial ?_
        | refine x_skip trivial rfl rfl rfl ?_
        | refine x_indexAddr1 rfl rfl rfl (by assumption) (by omega) (by omega) rfl trivial ?_
        | refine x_nil ?_
        | refine cw_seq ?_
        | refine nw_seq ?_
        | refine nw_block ?_
        | refine cw_block ?_
        | refine cw_skip ?_
        | refine cw_region ?_
        | refine cw_exit rfl ?_
        | refine cw_true rfl ?_
        | refine cw_false rfl ?_)
      refine x_call rfl rfl rfl trivial (law_SameBytes hA hB) ?_
      rintro _ _ ⟨rfl, rfl⟩
      refine ⟨trivial, ?_⟩
      repeat (first
        | refine x_move rfl rfl rfl trivial ?_
        | refine x_assign rfl rfl rfl trivial ?_
        | refine x_add rfl rfl rfl (wrap_i64 (by omega) (by omega)) rfl trivial ?_
        | refine x_sub_ rfl rfl rfl (wrap_i64 (by omega) (by omega)) rfl trivial ?_
        | refine x_mul rfl rfl rfl (wrap_i64 (by omega) (by omega)) rfl trivial ?_
        | refine x_ibin rfl rfl rfl rfl rfl trivial ?_
        | refine x_neg_ rfl rfl (wrap_i64 (by omega) (by omega)) rfl trivial ?_
        | refine x_len rfl rfl (by assumption) rfl trivial ?_
        | refine x_pick_t rfl rfl rfl rfl trivial ?_
        | refine x_pick_f rfl rfl rfl rfl trivial ?_
        | refine x_not rfl rfl rfl trivial ?_
        | refine x_extract rfl rfl rfl rfl trivial ?_
        | refine x_nilCheck rfl rfl rfl trivial ?_
        | refine x_fieldAddr rfl rfl rfl rfl trivial ?_
        | refine x_skip trivial rfl rfl rfl ?_
        | refine x_indexAddr1 rfl rfl rfl (by assumption) (by omega) (by omega) rfl trivial ?_
        | refine x_nil ?_
        | refine cw_seq ?_
        | refine nw_seq ?_
        | refine nw_block ?_
        | refine cw_block ?_
        | refine cw_skip ?_
        | refine cw_region ?_
        | refine cw_exit rfl ?_
        | refine cw_true rfl ?_
        | refine cw_false rfl ?_)
      refine x_true 32 rfl (by simp) ?_
      repeat (first
        | refine x_move rfl rfl rfl trivial ?_
        | refine x_assign rfl rfl rfl trivial ?_
        | refine x_add rfl rfl rfl (wrap_i64 (by omega) (by omega)) rfl trivial ?_
        | refine x_sub_ rfl rfl rfl (wrap_i64 (by omega) (by omega)) rfl trivial ?_
        | refine x_mul rfl rfl rfl (wrap_i64 (by omega) (by omega)) rfl trivial ?_
        | refine x_ibin rfl rfl rfl rfl rfl trivial ?_
        | refine x_neg_ rfl rfl (wrap_i64 (by omega) (by omega)) rfl trivial ?_
        | refine x_len rfl rfl (by assumption) rfl trivial ?_
        | refine x_pick_t rfl rfl rfl rfl trivial ?_
        | refine x_pick_f rfl rfl rfl rfl trivial ?_
        | refine x_not rfl rfl rfl trivial ?_
        | refine x_extract rfl rfl rfl rfl trivial ?_
        | refine x_nilCheck rfl rfl rfl trivial ?_
        | refine x_fieldAddr rfl rfl rfl rfl trivial ?_
        | refine x_skip trivial rfl rfl rfl ?_
        | refine x_indexAddr1 rfl rfl rfl (by assumption) (by omega) (by omega) rfl trivial ?_
        | refine x_nil ?_
        | refine cw_seq ?_
        | refine nw_seq ?_
        | refine nw_block ?_
        | refine cw_block ?_
        | refine cw_skip ?_
        | refine cw_region ?_
        | refine cw_exit rfl ?_
        | refine cw_true rfl ?_
        | refine cw_false rfl ?_)
      refine x_call rfl rfl rfl trivial (awake1 _) ?_
      rintro _ Hz ⟨rfl, hkz⟩
      refine ⟨trivial, ?_⟩
      repeat (first
        | refine x_move rfl rfl rfl trivial ?_
        | refine x_assign rfl rfl rfl trivial ?_
        | refine x_add rfl rfl rfl (wrap_i64 (by omega) (by omega)) rfl trivial ?_
        | refine x_sub_ rfl rfl rfl (wrap_i64 (by omega) (by omega)) rfl trivial ?_
        | refine x_mul rfl rfl rfl (wrap_i64 (by omega) (by omega)) rfl trivial ?_
        | refine x_ibin rfl rfl rfl rfl rfl trivial ?_
        | refine x_neg_ rfl rfl (wrap_i64 (by omega) (by omega)) rfl trivial ?_
        | refine x_len rfl rfl (by assumption) rfl trivial ?_
        | refine x_pick_t rfl rfl rfl rfl trivial ?_
        | refine x_pick_f rfl rfl rfl rfl trivial ?_
        | refine x_not rfl rfl rfl trivial ?_
        | refine x_extract rfl rfl rfl rfl trivial ?_
        | refine x_nilCheck rfl rfl rfl trivial ?_
        | refine x_fieldAddr rfl rfl rfl rfl trivial ?_
        | refine x_skip trivial rfl rfl rfl ?_
        | refine x_indexAddr1 rfl rfl rfl (by assumption) (by omega) (by omega) rfl trivial ?_
        | refine x_nil ?_
        | refine cw_seq ?_
        | refine nw_seq ?_
        | refine nw_block ?_
        | refine cw_block ?_
        | refine cw_skip ?_
        | refine cw_region ?_
        | refine cw_exit rfl ?_
        | refine cw_true rfl ?_
        | refine cw_false rfl ?_)
      exact cw_ret1 rfl rfl ⟨rfl, (Keep.refl Non H).non_trans hkz⟩
    · obtain ⟨d, hd, h3, h4, h5, h6, h7, h8⟩ := differ_spec hab
      rw [hd]
      refine cw_cond rfl (fun h2 => absurd h2 (by simp)) (fun _ => ?_)
      repeat (first
        | refine x_move rfl rfl rfl trivial ?_
        | refine x_assign rfl rfl rfl trivial ?_
        | refine x_add rfl rfl rfl (wrap_i64 (by omega) (by omega)) rfl trivial ?_
        | refine x_sub_ rfl rfl rfl (wrap_i64 (by omega) (by omega)) rfl trivial ?_
        | refine x_mul rfl rfl rfl (wrap_i64 (by omega) (by omega)) rfl trivial ?_
        | refine x_ibin rfl rfl rfl rfl rfl trivial ?_
        | refine x_neg_ rfl rfl (wrap_i64 (by omega) (by omega)) rfl trivial ?_
        | refine x_len rfl rfl (by assumption) rfl trivial ?_
        | refine x_pick_t rfl rfl rfl rfl trivial ?_
        | refine x_pick_f rfl rfl rfl rfl trivial ?_
        | refine x_not rfl rfl rfl trivial ?_
        | refine x_extract rfl rfl rfl rfl trivial ?_
        | refine x_nilCheck rfl rfl rfl trivial ?_
        | refine x_fieldAddr rfl rfl rfl rfl trivial ?_
        | refine x_skip trivial rfl rfl rfl ?_
        | refine x_indexAddr1 rfl rfl rfl (by assumption) (by omega) (by omega) rfl trivial ?_
        | refine x_nil ?_
        | refine cw_seq ?_
        | refine nw_seq ?_
        | refine nw_block ?_
        | refine cw_block ?_
        | refine cw_skip ?_
        | refine cw_region ?_
        | refine cw_exit rfl ?_
        | refine cw_true rfl ?_
        | refine cw_false rfl ?_)
      refine cw_cond rfl (fun h2 => absurd h2 (by simp; omega)) (fun _ => ?_)
      repeat (first
        | refine x_move rfl rfl rfl trivial ?_
        | refine x_assign rfl rfl rfl trivial ?_
        | refine x_add rfl rfl rfl (wrap_i64 (by omega) (by omega)) rfl trivial ?_
        | refine x_sub_ rfl rfl rfl (wrap_i64 (by omega) (by omega)) rfl trivial ?_
        | refine x_mul rfl rfl rfl (wrap_i64 (by omega) (by omega)) rfl trivial ?_
        | refine x_ibin rfl rfl rfl rfl rfl trivial ?_
        | refine x_neg_ rfl rfl (wrap_i64 (by omega) (by omega)) rfl trivial ?_
        | refine x_len rfl rfl (by assumption) rfl trivial ?_
        | refine x_pick_t rfl rfl rfl rfl trivial ?_
        | refine x_pick_f rfl rfl rfl rfl trivial ?_
        | refine x_not rfl rfl rfl trivial ?_
        | refine x_extract rfl rfl rfl rfl trivial ?_
        | refine x_nilCheck rfl rfl rfl trivial ?_
        | refine x_fieldAddr rfl rfl rfl rfl trivial ?_
        | refine x_skip trivial rfl rfl rfl ?_
        | refine x_indexAddr1 rfl rfl rfl (by assumption) (by omega) (by omega) rfl trivial ?_
        | refine x_nil ?_
        | refine cw_seq ?_
        | refine nw_seq ?_
        | refine nw_block ?_
        | refine cw_block ?_
        | refine cw_skip ?_
        | refine cw_region ?_
        | refine cw_exit rfl ?_
        | refine cw_true rfl ?_
        | refine cw_false rfl ?_)
      refine cw_loop (fun j : Nat => [(0, va), (1, vb), (5, .int .i64 (d : Int)), (6, .int .i64 (cmpB la lb)), (7, .int .i64 j)]) (fun j H' => H = H' ∧ j ≤ d) (fun j => d - j) 0 ⟨rfl, rfl, rfl, rfl, rfl, trivial⟩ ⟨rfl, Nat.zero_le _⟩ ?_
      rintro j _ ⟨rfl, hj⟩
      repeat (first
        | refine x_move rfl rfl rfl trivial ?_
        | refine x_assign rfl rfl rfl trivial ?_
        | refine x_add rfl rfl rfl (wrap_i64 (by omega) (by omega)) rfl trivial ?_
        | refine x_sub_ rfl rfl rfl (wrap_i64 (by omega) (by omega)) rfl trivial ?_
        | refine x_mul rfl rfl rfl (wrap_i64 (by omega) (by omega)) rfl trivial ?_
        | refine x_ibin rfl rfl rfl rfl rfl trivial ?_
        | refine x_neg_ rfl rfl (wrap_i64 (by omega) (by omega)) rfl trivial ?_
        | refine x_len rfl rfl (by assumption) rfl trivial ?_
        | refine x_pick_t rfl rfl rfl rfl trivial ?_
        | refine x_pick_f rfl rfl rfl rfl trivial ?_
        | refine x_not rfl rfl rfl trivial ?_
        | refine x_extract rfl rfl rfl rfl trivial ?_
        | refine x_nilCheck rfl rfl rfl trivial ?_
        | refine x_fieldAddr rfl rfl rfl rfl trivial ?_
        | refine x_skip trivial rfl rfl rfl ?_
        | refine x_indexAddr1 rfl rfl rfl (by assumption) (by omega) (by omega) rfl trivial ?_
        | refine x_nil ?_
        | refine cw_seq ?_
        | refine nw_seq ?_
        | refine nw_block ?_
        | refine cw_block ?_
        | refine cw_skip ?_
        | refine cw_region ?_
        | refine cw_exit rfl ?_
        | refine cw_true rfl ?_
        | refine cw_false rfl ?_)
      refine cw_cond rfl (fun h9 => ?_) (fun h9 => ?_) <;> (try simp at h9)
      · repeat (first
          | refine x_move rfl rfl rfl trivial ?_
          | refine x_assign rfl rfl rfl trivial ?_
          | refine x_add rfl rfl rfl (wrap_i64 (by omega) (by omega)) rfl trivial ?_
          | refine x_sub_ rfl rfl rfl (wrap_i64 (by omega) (by omega)) rfl trivial ?_
          | refine x_mul rfl rfl rfl (wrap_i64 (by omega) (by omega)) rfl trivial ?_
          | refine x_ibin rfl rfl rfl rfl rfl trivial ?_
          | refine x_neg_ rfl rfl (wrap_i64 (by omega) (by omega)) rfl trivial ?_
          | refine x_len rfl rfl (by assumption) rfl trivial ?_
          | refine x_pick_t rfl rfl rfl rfl trivial ?_
          | refine x_pick_f rfl rfl rfl rfl trivial ?_
          | refine x_not rfl rfl rfl trivial ?_
          | refine x_extract rfl rfl rfl rfl trivial ?_
          | refine x_nilCheck rfl rfl rfl trivial ?_
          | refine x_fieldAddr rfl rfl rfl rfl trivial ?_
          | refine x_skip trivial rfl rfl rfl ?_
          | refine x_indexAddr1 rfl rfl rfl (by assumption) (by omega) (by omega) rfl trivial ?_
          | refine x_nil ?_
          | refine cw_seq ?_
          | refine nw_seq ?_
          | refine nw_block ?_
          | refine cw_block ?_
          | refine cw_skip ?_
          | refine cw_region ?_
          | refine cw_exit rfl ?_
          | refine cw_true rfl ?_
          | refine cw_false rfl ?_)
        refine x_call rfl rfl rfl trivial (key_Bit j (by omega) hA) ?_
        rintro _ _ ⟨rfl, rfl⟩
        refine ⟨trivial, ?_⟩
        repeat (first
          | refine x_move rfl rfl rfl trivial ?_
          | refine x_assign rfl rfl rfl trivial ?_
          | refine x_add rfl rfl rfl (wrap_i64 (by omega) (by omega)) rfl trivial ?_
          | refine x_sub_ rfl rfl rfl (wrap_i64 (by omega) (by omega)) rfl trivial ?_
          | refine x_mul rfl rfl rfl (wrap_i64 (by omega) (by omega)) rfl trivial ?_
          | refine x_ibin rfl rfl rfl rfl rfl trivial ?_
          | refine x_neg_ rfl rfl (wrap_i64 (by omega) (by omega)) rfl trivial ?_
          | refine x_len rfl rfl (by assumption) rfl trivial ?_
          | refine x_pick_t rfl rfl rfl rfl trivial ?_
          | refine x_pick_f rfl rfl rfl rfl trivial ?_
          | refine x_not rfl rfl rfl trivial ?_
          | refine x_extract rfl rfl rfl rfl trivial ?_
          | refine x_nilCheck rfl rfl rfl trivial ?_
          | refine x_fieldAddr rfl rfl rfl rfl trivial ?_
          | refine x_skip trivial rfl rfl rfl ?_
          | refine x_indexAddr1 rfl rfl rfl (by assumption) (by omega) (by omega) rfl trivial ?_
          | refine x_nil ?_
          | refine cw_seq ?_
          | refine nw_seq ?_
          | refine nw_block ?_
          | refine cw_block ?_
          | refine cw_skip ?_
          | refine cw_region ?_
          | refine cw_exit rfl ?_
          | refine cw_true rfl ?_
          | refine cw_false rfl ?_)
        refine x_call rfl rfl rfl trivial (key_Bit j (by omega) hB) ?_
        rintro _ _ ⟨rfl, rfl⟩
        refine ⟨trivial, ?_⟩
        repeat (first
          | refine x_move rfl rfl rfl trivial ?_
          | refine x_assign rfl rfl rfl trivial ?_
          | refine x_add rfl rfl rfl (wrap_i64 (by omega) (by omega)) rfl trivial ?_
          | refine x_sub_ rfl rfl rfl (wrap_i64 (by omega) (by omega)) rfl trivial ?_
          | refine x_mul rfl rfl rfl (wrap_i64 (by omega) (by omega)) rfl trivial ?_
          | refine x_ibin rfl rfl rfl rfl rfl trivial ?_
          | refine x_neg_ rfl rfl (wrap_i64 (by omega) (by omega)) rfl trivial ?_
          | refine x_len rfl rfl (by assumption) rfl trivial ?_
          | refine x_pick_t rfl rfl rfl rfl trivial ?_
          | refine x_pick_f rfl rfl rfl rfl trivial ?_
          | refine x_not rfl rfl rfl trivial ?_
          | refine x_extract rfl rfl rfl rfl trivial ?_
          | refine x_nilCheck rfl rfl rfl trivial ?_
          | refine x_fieldAddr rfl rfl rfl rfl trivial ?_
          | refine x_skip trivial rfl rfl rfl ?_
          | refine x_indexAddr1 rfl rfl rfl (by assumption) (by omega) (by omega) rfl trivial ?_
          | refine x_nil ?_
          | refine cw_seq ?_
          | refine nw_seq ?_
          | refine nw_block ?_
          | refine cw_block ?_
          | refine cw_skip ?_
          | refine cw_region ?_
          | refine cw_exit rfl ?_
          | refine cw_true rfl ?_
          | refine cw_false rfl ?_)
        refine cw_cond rfl (fun h => absurd h (by simp [h6 j h9])) (fun _ => ?_)
        repeat (first
          | refine x_move rfl rfl rfl trivial ?_
          | refine x_assign rfl rfl rfl trivial ?_
          | refine x_add rfl rfl rfl (wrap_i64 (by omega) (by omega)) rfl trivial ?_
          | refine x_sub_ rfl rfl rfl (wrap_i64 (by omega) (by omega)) rfl trivial ?_
          | refine x_mul rfl rfl rfl (wrap_i64 (by omega) (by omega)) rfl trivial ?_
          | refine x_ibin rfl rfl rfl rfl rfl trivial ?_
          | refine x_neg_ rfl rfl (wrap_i64 (by omega) (by omega)) rfl trivial ?_
          | refine x_len rfl rfl (by assumption) rfl trivial ?_
          | refine x_pick_t rfl rfl rfl rfl trivial ?_
          | refine x_pick_f rfl rfl rfl rfl trivial ?_
          | refine x_not rfl rfl rfl trivial ?_
          | refine x_extract rfl rfl rfl rfl trivial ?_
          | refine x_nilCheck rfl rfl rfl trivial ?_
          | refine x_fieldAddr rfl rfl rfl rfl trivial ?_
          | refine x_skip trivial rfl rfl rfl ?_
          | refine x_indexAddr1 rfl rfl rfl (by assumption) (by omega) (by omega) rfl trivial ?_
          | refine x_nil ?_
          | refine cw_seq ?_
          | refine nw_seq ?_
          | refine nw_block ?_
          | refine cw_block ?_
          | refine cw_skip ?_
          | refine cw_region ?_
          | refine cw_exit rfl ?_
          | refine cw_true rfl ?_
          | refine cw_false rfl ?_)
        refine nw_round (j + 1) ⟨rfl, rfl, rfl, rfl, rfl, trivial⟩ ⟨rfl, by omega⟩ (by omega)
      · have hjd : j = d := by omega
        subst hjd
        have hb1 := bitK01 la j
        have hb2 := bitK01 lb j
        repeat (first
          | refine x_move rfl rfl rfl trivial ?_
          | refine x_assign rfl rfl rfl trivial ?_
          | refine x_add rfl rfl rfl (wrap_i64 (by omega) (by omega)) rfl trivial ?_
          | refine x_sub_ rfl rfl rfl (wrap_i64 (by omega) (by omega)) rfl trivial ?_
          | refine x_mul rfl rfl rfl (wrap_i64 (by omega) (by omega)) rfl trivial ?_
          | refine x_ibin rfl rfl rfl rfl rfl trivial ?_
          | refine x_neg_ rfl rfl (wrap_i64 (by omega) (by omega)) rfl trivial ?_
          | refine x_len rfl rfl (by assumption) rfl trivial ?_
          | refine x_pick_t rfl rfl rfl rfl trivial ?_
          | refine x_pick_f rfl rfl rfl rfl trivial ?_
          | refine x_not rfl rfl rfl trivial ?_
          | refine x_extract rfl rfl rfl rfl trivial ?_
          | refine x_nilCheck rfl rfl rfl trivial ?_
          | refine x_fieldAddr rfl rfl rfl rfl trivial ?_
          | refine x_skip trivial rfl rfl rfl ?_
          | refine x_indexAddr1 rfl rfl rfl (by assumption) (by omega) (by omega) rfl trivial ?_
          | refine x_nil ?_
          | refine cw_seq ?_
          | refine nw_seq ?_
          | refine nw_block ?_
          | refine cw_block ?_
          | refine cw_skip ?_
          | refine cw_region ?_
          | refine cw_exit rfl ?_
          | refine cw_true rfl ?_
          | refine cw_false rfl ?_)
        refine x_call rfl rfl rfl trivial (key_Bit j (by omega) hA) ?_
        rintro _ _ ⟨rfl, rfl⟩
        refine ⟨trivial, ?_⟩
        repeat (first
          | refine x_move rfl rfl rfl trivial ?_
          | refine x_assign rfl rfl rfl trivial ?_
          | refine x_add rfl rfl rfl (wrap_i64 (by omega) (by omega)) rfl trivial ?_
          | refine x_sub_ rfl rfl rfl (wrap_i64 (by omega) (by omega)) rfl trivial ?_
          | refine x_mul rfl rfl rfl (wrap_i64 (by omega) (by omega)) rfl trivial ?_
          | refine x_ibin rfl rfl rfl rfl rfl trivial ?_
          | refine x_neg_ rfl rfl (wrap_i64 (by omega) (by omega)) rfl trivial ?_
          | refine x_len rfl rfl (by assumption) rfl trivial ?_
          | refine x_pick_t rfl rfl rfl rfl trivial ?_
          | refine x_pick_f rfl rfl rfl rfl trivial ?_
          | refine x_not rfl rfl rfl trivial ?_
          | refine x_extract rfl rfl rfl rfl trivial ?_
          | refine x_nilCheck rfl rfl rfl trivial ?_
          | refine x_fieldAddr rfl rfl rfl rfl trivial ?_
          | refine x_skip trivial rfl rfl rfl ?_
          | refine x_indexAddr1 rfl rfl rfl (by assumption) (by omega) (by omega) rfl trivial ?_
          | refine x_nil ?_
          | refine cw_seq ?_
          | refine nw_seq ?_
          | refine nw_block ?_
          | refine cw_block ?_
          | refine cw_skip ?_
          | refine cw_region ?_
          | refine cw_exit rfl ?_
          | refine cw_true rfl ?_
          | refine cw_false rfl ?_)
        refine x_call rfl rfl rfl trivial (key_Bit j (by omega) hB) ?_
        rintro _ _ ⟨rfl, rfl⟩
        refine ⟨trivial, ?_⟩
        repeat (first
          | refine x_move rfl rfl rfl trivial ?_
          | refine x_assign rfl rfl rfl trivial ?_
          | refine x_add rfl rfl rfl (wrap_i64 (by omega) (by omega)) rfl trivial ?_
          | refine x_sub_ rfl rfl rfl (wrap_i64 (by omega) (by omega)) rfl trivial ?_
          | refine x_mul rfl rfl rfl (wrap_i64 (by omega) (by omega)) rfl trivial ?_
          | refine x_ibin rfl rfl rfl rfl rfl trivial ?_
          | refine x_neg_ rfl rfl (wrap_i64 (by omega) (by omega)) rfl trivial ?_
          | refine x_len rfl rfl (by assumption) rfl trivial ?_
          | refine x_pick_t rfl rfl rfl rfl trivial ?_
          | refine x_pick_f rfl rfl rfl rfl trivial ?_
          | refine x_not rfl rfl rfl trivial ?_
          | refine x_extract rfl rfl rfl rfl trivial ?_
          | refine x_nilCheck rfl rfl rfl trivial ?_
          | refine x_fieldAddr rfl rfl rfl rfl trivial ?_
          | refine x_skip trivial rfl rfl rfl ?_
          | refine x_indexAddr1 rfl rfl rfl (by assumption) (by omega) (by omega) rfl trivial ?_
          | refine x_nil ?_
          | refine cw_seq ?_
          | refine nw_seq ?_
          | refine nw_block ?_
          | refine cw_block ?_
          | refine cw_skip ?_
          | refine cw_region ?_
          | refine cw_exit rfl ?_
          | refine cw_true rfl ?_
          | refine cw_false rfl ?_)
        refine x_true 58 rfl (by simp; omega) ?_
        repeat (first
          | refine x_move rfl rfl rfl trivial ?_
          | refine x_assign rfl rfl rfl trivial ?_
          | refine x_add rfl rfl rfl (wrap_i64 (by omega) (by omega)) rfl trivial ?_
          | refine x_sub_ rfl rfl rfl (wrap_i64 (by omega) (by omega)) rfl trivial ?_
          | refine x_mul rfl rfl rfl (wrap_i64 (by omega) (by omega)) rfl trivial ?_
          | refine x_ibin rfl rfl rfl rfl rfl trivial ?_
          | refine x_neg_ rfl rfl (wrap_i64 (by omega) (by omega)) rfl trivial ?_
          | refine x_len rfl rfl (by assumption) rfl trivial ?_
          | refine x_pick_t rfl rfl rfl rfl trivial ?_
          | refine x_pick_f rfl rfl rfl rfl trivial ?_
          | refine x_not rfl rfl rfl trivial ?_
          | refine x_extract rfl rfl rfl rfl trivial ?_
          | refine x_nilCheck rfl rfl rfl trivial ?_
          | refine x_fieldAddr rfl rfl rfl rfl trivial ?_
          | refine x_skip trivial rfl rfl rfl ?_
          | refine x_indexAddr1 rfl rfl rfl (by assumption) (by omega) (by omega) rfl trivial ?_
          | refine x_nil ?_
          | refine cw_seq ?_
          | refine nw_seq ?_
          | refine nw_block ?_
          | refine cw_block ?_
          | refine cw_skip ?_
          | refine cw_region ?_
          | refine cw_exit rfl ?_
          | refine cw_true rfl ?_
          | refine cw_false rfl ?_)
        refine x_call rfl rfl rfl trivial (key_Compare hB hA) ?_
        rintro _ _ ⟨rfl, rfl⟩
        refine ⟨trivial, ?_⟩
        repeat (first
          | refine x_move rfl rfl rfl trivial ?_
          | refine x_assign rfl rfl rfl trivial ?_
          | refine x_add rfl rfl rfl (wrap_i64 (by omega) (by omega)) rfl trivial ?_
          | refine x_sub_ rfl rfl rfl (wrap_i64 (by omega) (by omega)) rfl trivial ?_
          | refine x_mul rfl rfl rfl (wrap_i64 (by omega) (by omega)) rfl trivial ?_
          | refine x_ibin rfl rfl rfl rfl rfl trivial ?_
          | refine x_neg_ rfl rfl (wrap_i64 (by omega) (by omega)) rfl trivial ?_
          | refine x_len rfl rfl (by assumption) rfl trivial ?_
          | refine x_pick_t rfl rfl rfl rfl trivial ?_
          | refine x_pick_f rfl rfl rfl rfl trivial ?_
          | refine x_not rfl rfl rfl trivial ?_
          | refine x_extract rfl rfl rfl rfl trivial ?_
          | refine x_nilCheck rfl rfl rfl trivial ?_
          | refine x_fieldAddr rfl rfl rfl rfl trivial ?_
          | refine x_skip trivial rfl rfl rfl ?_
          | refine x_indexAddr1 rfl rfl rfl (by assumption) (by omega) (by omega) rfl trivial ?_
          | refine x_nil ?_
          | refine cw_seq ?_
          | refine nw_seq ?_
          | refine nw_block ?_
          | refine cw_block ?_
          | refine cw_skip ?_
          | refine cw_region ?_
          | refine cw_exit rfl ?_
          | refine cw_true rfl ?_
          | refine cw_false rfl ?_)
        refine x_true 66 rfl (by simp; omega) ?_
        repeat (first
          | refine x_move rfl rfl rfl trivial ?_
          | refine x_assign rfl rfl rfl trivial ?_
          | refine x_add rfl rfl rfl (wrap_i64 (by omega) (by omega)) rfl trivial ?_
          | refine x_sub_ rfl rfl rfl (wrap_i64 (by omega) (by omega)) rfl trivial ?_
          | refine x_mul rfl rfl rfl (wrap_i64 (by omega) (by omega)) rfl trivial ?_
          | refine x_ibin rfl rfl rfl rfl rfl trivial ?_
          | refine x_neg_ rfl rfl (wrap_i64 (by omega) (by omega)) rfl trivial ?_
          | refine x_len rfl rfl (by assumption) rfl trivial ?_
          | refine x_pick_t rfl rfl rfl rfl trivial ?_
          | refine x_pick_f rfl rfl rfl rfl trivial ?_
          | refine x_not rfl rfl rfl trivial ?_
          | refine x_extract rfl rfl rfl rfl trivial ?_
          | refine x_nilCheck rfl rfl rfl trivial ?_
          | refine x_fieldAddr rfl rfl rfl rfl trivial ?_
          | refine x_skip trivial rfl rfl rfl ?_
          | refine x_indexAddr1 rfl rfl rfl (by assumption) (by omega) (by omega) rfl trivial ?_
          | refine x_nil ?_
          | refine cw_seq ?_
          | refine nw_seq ?_
          | refine nw_block ?_
          | refine cw_block ?_
          | refine cw_skip ?_
          | refine cw_region ?_
          | refine cw_exit rfl ?_
          | refine cw_true rfl ?_
          | refine cw_false rfl ?_)
        refine x_call rfl rfl rfl trivial (key_Differ hB hA (by omega)) ?_
        rintro _ _ ⟨rfl, rfl⟩
        refine ⟨trivial, ?_⟩
        rw [differ_comm, hd]
        repeat (first
          | refine x_move rfl rfl rfl trivial ?_
          | refine x_assign rfl rfl rfl trivial ?_
          | refine x_add rfl rfl rfl (wrap_i64 (by omega) (by omega)) rfl trivial ?_
          | refine x_sub_ rfl rfl rfl (wrap_i64 (by omega) (by omega)) rfl trivial ?_
          | refine x_mul rfl rfl rfl (wrap_i64 (by omega) (by omega)) rfl trivial ?_
          | refine x_ibin rfl rfl rfl rfl rfl trivial ?_
          | refine x_neg_ rfl rfl (wrap_i64 (by omega) (by omega)) rfl trivial ?_
          | refine x_len rfl rfl (by assumption) rfl trivial ?_
          | refine x_pick_t rfl rfl rfl rfl trivial ?_
          | refine x_pick_f rfl rfl rfl rfl trivial ?_
          | refine x_not rfl rfl rfl trivial ?_
          | refine x_extract rfl rfl rfl rfl trivial ?_
          | refine x_nilCheck rfl rfl rfl trivial ?_
          | refine x_fieldAddr rfl rfl rfl rfl trivial ?_
          | refine x_skip trivial rfl rfl rfl ?_
          | refine x_indexAddr1 rfl rfl rfl (by assumption) (by omega) (by omega) rfl trivial ?_
          | refine x_nil ?_
          | refine cw_seq ?_
          | refine nw_seq ?_
          | refine nw_block ?_
          | refine cw_block ?_
          | refine cw_skip ?_
          | refine cw_region ?_
          | refine cw_exit rfl ?_
          | refine cw_true rfl ?_
          | refine cw_false rfl ?_)
        refine x_true 73 rfl (by simp) ?_
        repeat (first
          | refine x_move rfl rfl rfl trivial ?_
          | refine x_assign rfl rfl rfl trivial ?_
          | refine x_add rfl rfl rfl (wrap_i64 (by omega) (by omega)) rfl trivial ?_
          | refine x_sub_ rfl rfl rfl (wrap_i64 (by omega) (by omega)) rfl trivial ?_
          | refine x_mul rfl rfl rfl (wrap_i64 (by omega) (by omega)) rfl trivial ?_
          | refine x_ibin rfl rfl rfl rfl rfl trivial ?_
          | refine x_neg_ rfl rfl (wrap_i64 (by omega) (by omega)) rfl trivial ?_
          | refine x_len rfl rfl (by assumption) rfl trivial ?_
          | refine x_pick_t rfl rfl rfl rfl trivial ?_
          | refine x_pick_f rfl rfl rfl rfl trivial ?_
          | refine x_not rfl rfl rfl trivial ?_
          | refine x_extract rfl rfl rfl rfl trivial ?_
          | refine x_nilCheck rfl rfl rfl trivial ?_
          | refine x_fieldAddr rfl rfl rfl rfl trivial ?_
          | refine x_skip trivial rfl rfl rfl ?_
          | refine x_indexAddr1 rfl rfl rfl (by assumption) (by omega) (by omega) rfl trivial ?_
          | refine x_nil ?_
          | refine cw_seq ?_
          | refine nw_seq ?_
          | refine nw_block ?_
          | refine cw_block ?_
          | refine cw_skip ?_
          | refine cw_region ?_
          | refine cw_exit rfl ?_
          | refine cw_true rfl ?_
          | refine cw_false rfl ?_)
        refine x_call rfl rfl rfl trivial (awake1 _) ?_
        rintro _ Hz ⟨rfl, hkz⟩
        refine ⟨trivial, ?_⟩
        repeat (first
          | refine x_move rfl rfl rfl trivial ?_
          | refine x_assign rfl rfl rfl trivial ?_
          | refine x_add rfl rfl rfl (wrap_i64 (by omega) (by omega)) rfl trivial ?_
          | refine x_sub_ rfl rfl rfl (wrap_i64 (by omega) (by omega)) rfl trivial ?_
          | refine x_mul rfl rfl rfl (wrap_i64 (by omega) (by omega)) rfl trivial ?_
          | refine x_ibin rfl rfl rfl rfl rfl trivial ?_
          | refine x_neg_ rfl rfl (wrap_i64 (by omega) (by omega)) rfl trivial ?_
          | refine x_len rfl rfl (by assumption) rfl trivial ?_
          | refine x_pick_t rfl rfl rfl rfl trivial ?_
          | refine x_pick_f rfl rfl rfl rfl trivial ?_
          | refine x_not rfl rfl rfl trivial ?_
          | refine x_extract rfl rfl rfl rfl trivial ?_
          | refine x_nilCheck rfl rfl rfl trivial ?_
          | refine x_fieldAddr rfl rfl rfl rfl trivial ?_
          | refine x_skip trivial rfl rfl rfl ?_
          | refine x_indexAddr1 rfl rfl rfl (by assumption) (by omega) (by omega) rfl trivial ?_
          | refine x_nil ?_
          | refine cw_seq ?_
          | refine nw_seq ?_
          | refine nw_block ?_
          | refine cw_block ?_
          | refine cw_skip ?_
          | refine cw_region ?_
          | refine cw_exit rfl ?_
          | refine cw_true rfl ?_
          | refine cw_false rfl ?_)
        exact cw_ret1 rfl rfl ⟨rfl, (Keep.refl Non H).non_trans hkz⟩

theorem walk_KeyLong (b : UInt8) (H : Heap) : Ret Try.prog 6 [.int .u8 (b.toNat : Int)] H (Yes H) := by
  refine ret_of Try.func6 rfl rfl rfl rfl ?_
  intro w0
  repeat (first
    | refine x_move rfl rfl rfl trivial ?_
    | refine x_assign rfl rfl rfl trivial ?_
    | refine x_add rfl rfl rfl (wrap_i64 (by omega) (by omega)) rfl trivial ?_
    | refine x_sub_ rfl rfl rfl (wrap_i64 (by omega) (by omega)) rfl trivial ?_
    | refine x_mul rfl rfl rfl (wrap_i64 (by omega) (by omega)) rfl trivial ?_
    | refine x_ibin rfl rfl rfl rfl rfl trivial ?_
    | refine x_neg_ rfl rfl (wrap_i64 (by omega) (by omega)) rfl trivial ?_
    | refine x_len rfl rfl (by assumption) rfl trivial ?_
    | refine x_pick_t rfl rfl rfl rfl trivial ?_
    | refine x_pick_f rfl rfl rfl rfl trivial ?_
    | refine x_not rfl rfl rfl trivial ?_
    | refine x_extract rfl rfl rfl rfl trivial ?_
    | refine x_nilCheck rfl rfl rfl trivial ?_
    | refine x_fieldAddr rfl rfl rfl rfl trivial ?_
    | refine x_skip trivial rfl rfl rfl ?_
    | refine x_indexAddr1 rfl rfl rfl (by assumption) (by omega) (by omega) rfl trivial ?_
    | refine x_nil ?_
    | refine cw_seq ?_
    | refine nw_seq ?_
    | refine nw_block ?_
    | refine cw_block ?_
    | refine cw_skip ?_
    | refine cw_region ?_
    | refine cw_exit rfl ?_
    | refine cw_true rfl ?_
    | refine cw_false rfl ?_)
  refine x_call rfl rfl rfl trivial (law_Long 65535 (by omega) b H) ?_
  rintro v H1 ⟨hk1, hO, hf⟩
  refine ⟨trivial, ?_⟩
  have hlen : ((List.replicate 65535 (120 : UInt8)).set (65535 - 1) b).length = 65535 := by rw [List.length_set, List.length_replicate]
  generalize hl : (List.replicate 65535 (120 : UInt8)).set (65535 - 1) b = l at *
  have hV : Bs H1 v l := ⟨by rw [hlen]; exact hO.sl, hO.cels⟩
  repeat (first
    | refine x_move rfl rfl rfl trivial ?_
    | refine x_assign rfl rfl rfl trivial ?_
    | refine x_add rfl rfl rfl (wrap_i64 (by omega) (by omega)) rfl trivial ?_
    | refine x_sub_ rfl rfl rfl (wrap_i64 (by omega) (by omega)) rfl trivial ?_
    | refine x_mul rfl rfl rfl (wrap_i64 (by omega) (by omega)) rfl trivial ?_
    | refine x_ibin rfl rfl rfl rfl rfl trivial ?_
    | refine x_neg_ rfl rfl (wrap_i64 (by omega) (by omega)) rfl trivial ?_
    | refine x_len rfl rfl (by assumption) rfl trivial ?_
    | refine x_pick_t rfl rfl rfl rfl trivial ?_
    | refine x_pick_f rfl rfl rfl rfl trivial ?_
    | refine x_not rfl rfl rfl trivial ?_
    | refine x_extract rfl rfl rfl rfl trivial ?_
    | refine x_nilCheck rfl rfl rfl trivial ?_
    | refine x_fieldAddr rfl rfl rfl rfl trivial ?_
    | refine x_skip trivial rfl rfl rfl ?_
    | refine x_indexAddr1 rfl rfl rfl (by assumption) (by omega) (by omega) rfl trivial ?_
    | refine x_nil ?_
    | refine cw_seq ?_
    | refine nw_seq ?_
    | refine nw_block ?_
    | refine cw_block ?_
    | refine cw_skip ?_
    | refine cw_region ?_
    | refine cw_exit rfl ?_
    | refine cw_true rfl ?_
    | refine cw_false rfl ?_)
  refine x_call rfl rfl rfl trivial (key_May hV.sl) ?_
  rintro _ _ ⟨rfl, rfl⟩
  refine ⟨trivial, ?_⟩
  repeat (first
    | refine x_move rfl rfl rfl trivial ?_
    | refine x_assign rfl rfl rfl trivial ?_
    | refine x_add rfl rfl rfl (wrap_i64 (by omega) (by omega)) rfl trivial ?_
    | refine x_sub_ rfl rfl rfl (wrap_i64 (by omega) (by omega)) rfl trivial ?_
    | refine x_mul rfl rfl rfl (wrap_i64 (by omega) (by omega)) rfl trivial ?_
    | refine x_ibin rfl rfl rfl rfl rfl trivial ?_
    | refine x_neg_ rfl rfl (wrap_i64 (by omega) (by omega)) rfl trivial ?_
    | refine x_len rfl rfl (by assumption) rfl trivial ?_
    | refine x_pick_t rfl rfl rfl rfl trivial ?_
    | refine x_pick_f rfl rfl rfl rfl trivial ?_
    | refine x_not rfl rfl rfl trivial ?_
    | refine x_extract rfl rfl rfl rfl trivial ?_
    | refine x_nilCheck rfl rfl rfl trivial ?_
    | refine x_fieldAddr rfl rfl rfl rfl trivial ?_
    | refine x_skip trivial rfl rfl rfl ?_
    | refine x_indexAddr1 rfl rfl rfl (by assumption) (by omega) (by omega) rfl trivial ?_
    | refine x_nil ?_
    | refine cw_seq ?_
    | refine nw_seq ?_
    | refine nw_block ?_
    | refine cw_block ?_
    | refine cw_skip ?_
    | refine cw_region ?_
    | refine cw_exit rfl ?_
    | refine cw_true rfl ?_
    | refine cw_false rfl ?_)
  refine x_true 8 rfl (by simp; omega) ?_
  repeat (first
    | refine x_move rfl rfl rfl trivial ?_
    | refine x_assign rfl rfl rfl trivial ?_
    | refine x_add rfl rfl rfl (wrap_i64 (by omega) (by omega)) rfl trivial ?_
    | refine x_sub_ rfl rfl rfl (wrap_i64 (by omega) (by omega)) rfl trivial ?_
    | refine x_mul rfl rfl rfl (wrap_i64 (by omega) (by omega)) rfl trivial ?_
    | refine x_ibin rfl rfl rfl rfl rfl trivial ?_
    | refine x_neg_ rfl rfl (wrap_i64 (by omega) (by omega)) rfl trivial ?_
    | refine x_len rfl rfl (by assumption) rfl trivial ?_
    | refine x_pick_t rfl rfl rfl rfl trivial ?_
    | refine x_pick_f rfl rfl rfl rfl trivial ?_
    | refine x_not rfl rfl rfl trivial ?_
    | refine x_extract rfl rfl rfl rfl trivial ?_
    | refine x_nilCheck rfl rfl rfl trivial ?_
    | refine x_fieldAddr rfl rfl rfl rfl trivial ?_
    | refine x_skip trivial rfl rfl rfl ?_
    | refine x_indexAddr1 rfl rfl rfl (by assumption) (by omega) (by omega) rfl trivial ?_
    | refine x_nil ?_
    | refine cw_seq ?_
    | refine nw_seq ?_
    | refine nw_block ?_
    | refine cw_block ?_
    | refine cw_skip ?_
    | refine cw_region ?_
    | refine cw_exit rfl ?_
    | refine cw_true rfl ?_
    | refine cw_false rfl ?_)
  refine x_buildSlice rfl rfl rfl rfl (by omega) (by simp [oneC, Value.oneCell']) rfl trivial ?_
  intro H2 hn
  refine ⟨trivial, ?_⟩
  refine x_append (by rfl) (by rfl) (by rfl) rfl rfl rfl (hO.keep hn.keep (fun _ h => h)) (isSl_some (Nat.le_refl _) (by omega)) (m := 1) (cx := [bv b]) rfl (hn.blk.cels 0 1 (by simp)) (by simp [oneC, Value.oneCell']) (by omega) rfl trivial ?_
  intro v' H3 hap
  refine ⟨trivial, ?_⟩
  have hk3 := hap.old hf (hn.old hk1)
  have hO3 := hap.first (hO.keep hn.keep (fun _ h => h))
  have hV3 : Bs H3 v l := ⟨by rw [hlen]; exact hO3.sl, hO3.cels⟩
  repeat (first
    | refine x_move rfl rfl rfl trivial ?_
    | refine x_assign rfl rfl rfl trivial ?_
    | refine x_add rfl rfl rfl (wrap_i64 (by omega) (by omega)) rfl trivial ?_
    | refine x_sub_ rfl rfl rfl (wrap_i64 (by omega) (by omega)) rfl trivial ?_
    | refine x_mul rfl rfl rfl (wrap_i64 (by omega) (by omega)) rfl trivial ?_
    | refine x_ibin rfl rfl rfl rfl rfl trivial ?_
    | refine x_neg_ rfl rfl (wrap_i64 (by omega) (by omega)) rfl trivial ?_
    | refine x_len rfl rfl (by assumption) rfl trivial ?_
    | refine x_pick_t rfl rfl rfl rfl trivial ?_
    | refine x_pick_f rfl rfl rfl rfl trivial ?_
    | refine x_not rfl rfl rfl trivial ?_
    | refine x_extract rfl rfl rfl rfl trivial ?_
    | refine x_nilCheck rfl rfl rfl trivial ?_
    | refine x_fieldAddr rfl rfl rfl rfl trivial ?_
    | refine x_skip trivial rfl rfl rfl ?_
    | refine x_indexAddr1 rfl rfl rfl (by assumption) (by omega) (by omega) rfl trivial ?_
    | refine x_nil ?_
    | refine cw_seq ?_
    | refine nw_seq ?_
    | refine nw_block ?_
    | refine cw_block ?_
    | refine cw_skip ?_
    | refine cw_region ?_
    | refine cw_exit rfl ?_
    | refine cw_true rfl ?_
    | refine cw_false rfl ?_)
  refine x_call rfl rfl rfl trivial (key_May hap.own.sl) ?_
  rintro _ _ ⟨rfl, rfl⟩
  refine ⟨trivial, ?_⟩
  repeat (first
    | refine x_move rfl rfl rfl trivial ?_
    | refine x_assign rfl rfl rfl trivial ?_
    | refine x_add rfl rfl rfl (wrap_i64 (by omega) (by omega)) rfl trivial ?_
    | refine x_sub_ rfl rfl rfl (wrap_i64 (by omega) (by omega)) rfl trivial ?_
    | refine x_mul rfl rfl rfl (wrap_i64 (by omega) (by omega)) rfl trivial ?_
    | refine x_ibin rfl rfl rfl rfl rfl trivial ?_
    | refine x_neg_ rfl rfl (wrap_i64 (by omega) (by omega)) rfl trivial ?_
    | refine x_len rfl rfl (by assumption) rfl trivial ?_
    | refine x_pick_t rfl rfl rfl rfl trivial ?_
    | refine x_pick_f rfl rfl rfl rfl trivial ?_
    | refine x_not rfl rfl rfl trivial ?_
    | refine x_extract rfl rfl rfl rfl trivial ?_
    | refine x_nilCheck rfl rfl rfl trivial ?_
    | refine x_fieldAddr rfl rfl rfl rfl trivial ?_
    | refine x_skip trivial rfl rfl rfl ?_
    | refine x_indexAddr1 rfl rfl rfl (by assumption) (by omega) (by omega) rfl trivial ?_
    | refine x_nil ?_
    | refine cw_seq ?_
    | refine nw_seq ?_
    | refine nw_block ?_
    | refine cw_block ?_
    | refine cw_skip ?_
    | refine cw_region ?_
    | refine cw_exit rfl ?_
    | refine cw_true rfl ?_
    | refine cw_false rfl ?_)
  refine x_true 16 rfl (by simp) ?_
  repeat (first
    | refine x_move rfl rfl rfl trivial ?_
    | refine x_assign rfl rfl rfl trivial ?_
    | refine x_add rfl rfl rfl (wrap_i64 (by omega) (by omega)) rfl trivial ?_
    | refine x_sub_ rfl rfl rfl (wrap_i64 (by omega) (by omega)) rfl trivial ?_
    | refine x_mul rfl rfl rfl (wrap_i64 (by omega) (by omega)) rfl trivial ?_
    | refine x_ibin rfl rfl rfl rfl rfl trivial ?_
    | refine x_neg_ rfl rfl (wrap_i64 (by omega) (by omega)) rfl trivial ?_
    | refine x_len rfl rfl (by assumption) rfl trivial ?_
    | refine x_pick_t rfl rfl rfl rfl trivial ?_
    | refine x_pick_f rfl rfl rfl rfl trivial ?_
    | refine x_not rfl rfl rfl trivial ?_
    | refine x_extract rfl rfl rfl rfl trivial ?_
    | refine x_nilCheck rfl rfl rfl trivial ?_
    | refine x_fieldAddr rfl rfl rfl rfl trivial ?_
    | refine x_skip trivial rfl rfl rfl ?_
    | refine x_indexAddr1 rfl rfl rfl (by assumption) (by omega) (by omega) rfl trivial ?_
    | refine x_nil ?_
    | refine cw_seq ?_
    | refine nw_seq ?_
    | refine nw_block ?_
    | refine cw_block ?_
    | refine cw_skip ?_
    | refine cw_region ?_
    | refine cw_exit rfl ?_
    | refine cw_true rfl ?_
    | refine cw_false rfl ?_)
  refine x_call rfl rfl rfl trivial (key_Common hV3 hV3) ?_
  rintro _ _ ⟨rfl, rfl⟩
  refine ⟨trivial, ?_⟩
  rw [common_self, hlen]
  repeat (first
    | refine x_move rfl rfl rfl trivial ?_
    | refine x_assign rfl rfl rfl trivial ?_
    | refine x_add rfl rfl rfl (wrap_i64 (by omega) (by omega)) rfl trivial ?_
    | refine x_sub_ rfl rfl rfl (wrap_i64 (by omega) (by omega)) rfl trivial ?_
    | refine x_mul rfl rfl rfl (wrap_i64 (by omega) (by omega)) rfl trivial ?_
    | refine x_ibin rfl rfl rfl rfl rfl trivial ?_
    | refine x_neg_ rfl rfl (wrap_i64 (by omega) (by omega)) rfl trivial ?_
    | refine x_len rfl rfl (by assumption) rfl trivial ?_
    | refine x_pick_t rfl rfl rfl rfl trivial ?_
    | refine x_pick_f rfl rfl rfl rfl trivial ?_
    | refine x_not rfl rfl rfl trivial ?_
    | refine x_extract rfl rfl rfl rfl trivial ?_
    | refine x_nilCheck rfl rfl rfl trivial ?_
    | refine x_fieldAddr rfl rfl rfl rfl trivial ?_
    | refine x_skip trivial rfl rfl rfl ?_
    | refine x_indexAddr1 rfl rfl rfl (by assumption) (by omega) (by omega) rfl trivial ?_
    | refine x_nil ?_
    | refine cw_seq ?_
    | refine nw_seq ?_
    | refine nw_block ?_
    | refine cw_block ?_
    | refine cw_skip ?_
    | refine cw_region ?_
    | refine cw_exit rfl ?_
    | refine cw_true rfl ?_
    | refine cw_false rfl ?_)
  refine x_true 22 rfl (by simp) ?_
  repeat (first
    | refine x_move rfl rfl rfl trivial ?_
    | refine x_assign rfl rfl rfl trivial ?_
    | refine x_add rfl rfl rfl (wrap_i64 (by omega) (by omega)) rfl trivial ?_
    | refine x_sub_ rfl rfl rfl (wrap_i64 (by omega) (by omega)) rfl trivial ?_
    | refine x_mul rfl rfl rfl (wrap_i64 (by omega) (by omega)) rfl trivial ?_
    | refine x_ibin rfl rfl rfl rfl rfl trivial ?_
    | refine x_neg_ rfl rfl (wrap_i64 (by omega) (by omega)) rfl trivial ?_
    | refine x_len rfl rfl (by assumption) rfl trivial ?_
    | refine x_pick_t rfl rfl rfl rfl trivial ?_
    | refine x_pick_f rfl rfl rfl rfl trivial ?_
    | refine x_not rfl rfl rfl trivial ?_
    | refine x_extract rfl rfl rfl rfl trivial ?_
    | refine x_nilCheck rfl rfl rfl trivial ?_
    | refine x_fieldAddr rfl rfl rfl rfl trivial ?_
    | refine x_skip trivial rfl rfl rfl ?_
    | refine x_indexAddr1 rfl rfl rfl (by assumption) (by omega) (by omega) rfl trivial ?_
    | refine x_nil ?_
    | refine cw_seq ?_
    | refine nw_seq ?_
    | refine nw_block ?_
    | refine cw_block ?_
    | refine cw_skip ?_
    | refine cw_region ?_
    | refine cw_exit rfl ?_
    | refine cw_true rfl ?_
    | refine cw_false rfl ?_)
  refine x_call rfl rfl rfl trivial (key_Bit 589815 (by omega) hV3) ?_
  rintro _ _ ⟨rfl, rfl⟩
  refine ⟨trivial, ?_⟩
  repeat (first
    | refine x_move rfl rfl rfl trivial ?_
    | refine x_assign rfl rfl rfl trivial ?_
    | refine x_add rfl rfl rfl (wrap_i64 (by omega) (by omega)) rfl trivial ?_
    | refine x_sub_ rfl rfl rfl (wrap_i64 (by omega) (by omega)) rfl trivial ?_
    | refine x_mul rfl rfl rfl (wrap_i64 (by omega) (by omega)) rfl trivial ?_
    | refine x_ibin rfl rfl rfl rfl rfl trivial ?_
    | refine x_neg_ rfl rfl (wrap_i64 (by omega) (by omega)) rfl trivial ?_
    | refine x_len rfl rfl (by assumption) rfl trivial ?_
    | refine x_pick_t rfl rfl rfl rfl trivial ?_
    | refine x_pick_f rfl rfl rfl rfl trivial ?_
    | refine x_not rfl rfl rfl trivial ?_
    | refine x_extract rfl rfl rfl rfl trivial ?_
    | refine x_nilCheck rfl rfl rfl trivial ?_
    | refine x_fieldAddr rfl rfl rfl rfl trivial ?_
    | refine x_skip trivial rfl rfl rfl ?_
    | refine x_indexAddr1 rfl rfl rfl (by assumption) (by omega) (by omega) rfl trivial ?_
    | refine x_nil ?_
    | refine cw_seq ?_
    | refine nw_seq ?_
    | refine nw_block ?_
    | refine cw_block ?_
    | refine cw_skip ?_
    | refine cw_region ?_
    | refine cw_exit rfl ?_
    | refine cw_true rfl ?_
    | refine cw_false rfl ?_)
  have hb0 : bitK l 589815 = 0 := by
    have : l[65535]? = none := List.getElem?_eq_none (by omega)
    unfold bitK
    rw [if_neg (by decide)]
    have e : (589815 : Int).toNat / 9 = 65535 := by decide
    rw [e, this]
  refine x_true 27 rfl (by simp [hb0]) ?_
  repeat (first
    | refine x_move rfl rfl rfl trivial ?_
    | refine x_assign rfl rfl rfl trivial ?_
    | refine x_add rfl rfl rfl (wrap_i64 (by omega) (by omega)) rfl trivial ?_
    | refine x_sub_ rfl rfl rfl (wrap_i64 (by omega) (by omega)) rfl trivial ?_
    | refine x_mul rfl rfl rfl (wrap_i64 (by omega) (by omega)) rfl trivial ?_
    | refine x_ibin rfl rfl rfl rfl rfl trivial ?_
    | refine x_neg_ rfl rfl (wrap_i64 (by omega) (by omega)) rfl trivial ?_
    | refine x_len rfl rfl (by assumption) rfl trivial ?_
    | refine x_pick_t rfl rfl rfl rfl trivial ?_
    | refine x_pick_f rfl rfl rfl rfl trivial ?_
    | refine x_not rfl rfl rfl trivial ?_
    | refine x_extract rfl rfl rfl rfl trivial ?_
    | refine x_nilCheck rfl rfl rfl trivial ?_
    | refine x_fieldAddr rfl rfl rfl rfl trivial ?_
    | refine x_skip trivial rfl rfl rfl ?_
    | refine x_indexAddr1 rfl rfl rfl (by assumption) (by omega) (by omega) rfl trivial ?_
    | refine x_nil ?_
    | refine cw_seq ?_
    | refine nw_seq ?_
    | refine nw_block ?_
    | refine cw_block ?_
    | refine cw_skip ?_
    | refine cw_region ?_
    | refine cw_exit rfl ?_
    | refine cw_true rfl ?_
    | refine cw_false rfl ?_)
  refine x_call rfl rfl rfl trivial (awake1 _) ?_
  rintro _ Hz ⟨rfl, hkz⟩
  refine ⟨trivial, ?_⟩
  repeat (first
    | refine x_move rfl rfl rfl trivial ?_
    | refine x_assign rfl rfl rfl trivial ?_
    | refine x_add rfl rfl rfl (wrap_i64 (by omega) (by omega)) rfl trivial ?_
    | refine x_sub_ rfl rfl rfl (wrap_i64 (by omega) (by omega)) rfl trivial ?_
    | refine x_mul rfl rfl rfl (wrap_i64 (by omega) (by omega)) rfl trivial ?_
    | refine x_ibin rfl rfl rfl rfl rfl trivial ?_
    | refine x_neg_ rfl rfl (wrap_i64 (by omega) (by omega)) rfl trivial ?_
    | refine x_len rfl rfl (by assumption) rfl trivial ?_
    | refine x_pick_t rfl rfl rfl rfl trivial ?_
    | refine x_pick_f rfl rfl rfl rfl trivial ?_
    | refine x_not rfl rfl rfl trivial ?_
    | refine x_extract rfl rfl rfl rfl trivial ?_
    | refine x_nilCheck rfl rfl rfl trivial ?_
    | refine x_fieldAddr rfl rfl rfl rfl trivial ?_
    | refine x_skip trivial rfl rfl rfl ?_
    | refine x_indexAddr1 rfl rfl rfl (by assumption) (by omega) (by omega) rfl trivial ?_
    | refine x_nil ?_
    | refine cw_seq ?_
    | refine nw_seq ?_
    | refine nw_block ?_
    | refine cw_block ?_
    | refine cw_skip ?_
    | refine cw_region ?_
    | refine cw_exit rfl ?_
    | refine cw_true rfl ?_
    | refine cw_false rfl ?_)
  exact cw_ret1 rfl rfl ⟨rfl, (hk3).non_trans hkz⟩

end Go.Proofs.Ytopfmnkohfcggaa.X
