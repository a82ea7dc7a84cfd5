/- Chapter 19's own answer: what it is. -/
import Derived.Test.YtghdmamchbecjaaMrg
import Derived.Test.YtghdmamchbecjaaKrise
namespace Go.Proofs.Ytghdmamchbecjaa.X
open Go Go.Proofs
set_option linter.unusedVariables false
set_option maxRecDepth 10000
set_option maxHeartbeats 2000000

theorem ref_Of {op policy : Int} {va vb : Value} {la lb : List Pr} {H : Heap} (hA : Ps H va la) (hB : Ps H vb lb) (hla : la.length ≤ 100000) (hlb : lb.length ≤ 100000) (hka : ∀ p ∈ la, p.1.length ≤ 1000000) (hkb : ∀ p ∈ lb, p.1.length ≤ 1000000) :
    Ret Try.prog 11 [.int .i64 op, .int .i64 policy, va, vb] H (fun v H' => Keep Non H H' ∧ ∃ u, v = .tuple #[u, .int .i64 (mof op policy la lb).2] ∧ Ps H' u ((mof op policy la lb).1.getD [])) := by
  have sA := hA.sl
  have cA := sA.cap
  have sB := hB.sl
  have cB := sB.cap
  refine ret_of Try.func11 rfl rfl rfl rfl ?_
  intro w0
  repeat (first
    | refine x_move rfl rfl rfl trivial ?_
    | refine x_assign rfl rfl rfl trivial ?_
    | refine x_add rfl rfl rfl (wrap_i64 (by omega) (by omega)) rfl trivial ?_
    | refine x_sub_ rfl rfl rfl (wrap_i64 (by omega) (by omega)) rfl trivial ?_
    | refine x_mul rfl rfl rfl (wrap_i64 (by omega) (by omega)) rfl trivial ?_
    | refine x_ibin rfl rfl rfl rfl rfl trivial ?_
    | refine x_neg_ rfl rfl (wrap_i64 (by omega) (by omega)) rfl trivial ?_
    | refine x_len rfl rfl (by assumption) rfl trivial ?_
    | refine x_pick_t rfl rfl rfl rfl trivial ?_
    | refine x_pick_f rfl rfl rfl rfl trivial ?_
    | refine x_not rfl rfl rfl trivial ?_
    | refine x_beq rfl rfl rfl rfl trivial ?_
    | refine x_bne rfl rfl rfl rfl trivial ?_
    | refine x_extract rfl rfl rfl rfl trivial ?_
    | refine x_nilCheck rfl rfl rfl trivial ?_
    | refine x_fieldAddr rfl rfl rfl rfl trivial ?_
    | refine x_skip trivial rfl rfl rfl ?_
    | refine x_indexAddr1 rfl rfl rfl (by assumption) (by omega) (by omega) rfl trivial ?_
    | refine x_indexAddr rfl rfl rfl (by assumption) (by omega) (by omega) rfl trivial ?_
    | refine x_nil ?_
    | refine cw_seq ?_
    | refine nw_seq ?_
    | refine nw_block ?_
    | refine cw_block ?_
    | refine cw_skip ?_
    | refine cw_region ?_
    | refine cw_exit rfl ?_
    | refine cw_true rfl ?_
    | refine cw_false rfl ?_)
  refine x_split 23 rfl (fun h1 => ?_) (fun h1 => ?_) <;> (try simp at h1)
  · repeat (first
      | refine x_move rfl rfl rfl trivial ?_
      | refine x_assign rfl rfl rfl trivial ?_
      | refine x_add rfl rfl rfl (wrap_i64 (by omega) (by omega)) rfl trivial ?_
      | refine x_sub_ rfl rfl rfl (wrap_i64 (by omega) (by omega)) rfl trivial ?_
      | refine x_mul rfl rfl rfl (wrap_i64 (by omega) (by omega)) rfl trivial ?_
      | refine x_ibin rfl rfl rfl rfl rfl trivial ?_
      | refine x_neg_ rfl rfl (wrap_i64 (by omega) (by omega)) rfl trivial ?_
      | refine x_len rfl rfl (by assumption) rfl trivial ?_
      | refine x_pick_t rfl rfl rfl rfl trivial ?_
      | refine x_pick_f rfl rfl rfl rfl trivial ?_
      | refine x_not rfl rfl rfl trivial ?_
      | refine x_beq rfl rfl rfl rfl trivial ?_
      | refine x_bne rfl rfl rfl rfl trivial ?_
      | refine x_extract rfl rfl rfl rfl trivial ?_
      | refine x_nilCheck rfl rfl rfl trivial ?_
      | refine x_fieldAddr rfl rfl rfl rfl trivial ?_
      | refine x_skip trivial rfl rfl rfl ?_
      | refine x_indexAddr1 rfl rfl rfl (by assumption) (by omega) (by omega) rfl trivial ?_
      | refine x_indexAddr rfl rfl rfl (by assumption) (by omega) (by omega) rfl trivial ?_
      | refine x_nil ?_
      | refine cw_seq ?_
      | refine nw_seq ?_
      | refine nw_block ?_
      | refine cw_block ?_
      | refine cw_skip ?_
      | refine cw_region ?_
      | refine cw_exit rfl ?_
      | refine cw_true rfl ?_
      | refine cw_false rfl ?_)
    have hm : mof op policy la lb = (none, 2) := by simp only [mof, if_pos (show ¬ (1 ≤ op ∧ op ≤ 3) ∨ ¬ (1 ≤ policy ∧ policy ≤ 3) by omega)]
    rw [hm]
    exact cw_ret2 rfl rfl rfl ⟨Keep.refl _ _, _, rfl, Ps.nil _⟩
  repeat (first
    | refine x_move rfl rfl rfl trivial ?_
    | refine x_assign rfl rfl rfl trivial ?_
    | refine x_add rfl rfl rfl (wrap_i64 (by omega) (by omega)) rfl trivial ?_
    | refine x_sub_ rfl rfl rfl (wrap_i64 (by omega) (by omega)) rfl trivial ?_
    | refine x_mul rfl rfl rfl (wrap_i64 (by omega) (by omega)) rfl trivial ?_
    | refine x_ibin rfl rfl rfl rfl rfl trivial ?_
    | refine x_neg_ rfl rfl (wrap_i64 (by omega) (by omega)) rfl trivial ?_
    | refine x_len rfl rfl (by assumption) rfl trivial ?_
    | refine x_pick_t rfl rfl rfl rfl trivial ?_
    | refine x_pick_f rfl rfl rfl rfl trivial ?_
    | refine x_not rfl rfl rfl trivial ?_
    | refine x_beq rfl rfl rfl rfl trivial ?_
    | refine x_bne rfl rfl rfl rfl trivial ?_
    | refine x_extract rfl rfl rfl rfl trivial ?_
    | refine x_nilCheck rfl rfl rfl trivial ?_
    | refine x_fieldAddr rfl rfl rfl rfl trivial ?_
    | refine x_skip trivial rfl rfl rfl ?_
    | refine x_indexAddr1 rfl rfl rfl (by assumption) (by omega) (by omega) rfl trivial ?_
    | refine x_indexAddr rfl rfl rfl (by assumption) (by omega) (by omega) rfl trivial ?_
    | refine x_nil ?_
    | refine cw_seq ?_
    | refine nw_seq ?_
    | refine nw_block ?_
    | refine cw_block ?_
    | refine cw_skip ?_
    | refine cw_region ?_
    | refine cw_exit rfl ?_
    | refine cw_true rfl ?_
    | refine cw_false rfl ?_)
  refine x_split 27 rfl (fun h2 => ?_) (fun h2 => ?_) <;> (try simp at h2)
  · repeat (first
      | refine x_move rfl rfl rfl trivial ?_
      | refine x_assign rfl rfl rfl trivial ?_
      | refine x_add rfl rfl rfl (wrap_i64 (by omega) (by omega)) rfl trivial ?_
      | refine x_sub_ rfl rfl rfl (wrap_i64 (by omega) (by omega)) rfl trivial ?_
      | refine x_mul rfl rfl rfl (wrap_i64 (by omega) (by omega)) rfl trivial ?_
      | refine x_ibin rfl rfl rfl rfl rfl trivial ?_
      | refine x_neg_ rfl rfl (wrap_i64 (by omega) (by omega)) rfl trivial ?_
      | refine x_len rfl rfl (by assumption) rfl trivial ?_
      | refine x_pick_t rfl rfl rfl rfl trivial ?_
      | refine x_pick_f rfl rfl rfl rfl trivial ?_
      | refine x_not rfl rfl rfl trivial ?_
      | refine x_beq rfl rfl rfl rfl trivial ?_
      | refine x_bne rfl rfl rfl rfl trivial ?_
      | refine x_extract rfl rfl rfl rfl trivial ?_
      | refine x_nilCheck rfl rfl rfl trivial ?_
      | refine x_fieldAddr rfl rfl rfl rfl trivial ?_
      | refine x_skip trivial rfl rfl rfl ?_
      | refine x_indexAddr1 rfl rfl rfl (by assumption) (by omega) (by omega) rfl trivial ?_
      | refine x_indexAddr rfl rfl rfl (by assumption) (by omega) (by omega) rfl trivial ?_
      | refine x_nil ?_
      | refine cw_seq ?_
      | refine nw_seq ?_
      | refine nw_block ?_
      | refine cw_block ?_
      | refine cw_skip ?_
      | refine cw_region ?_
      | refine cw_exit rfl ?_
      | refine cw_true rfl ?_
      | refine cw_false rfl ?_)
    have hm : mof op policy la lb = (none, 2) := by simp only [mof, if_pos (show ¬ (1 ≤ op ∧ op ≤ 3) ∨ ¬ (1 ≤ policy ∧ policy ≤ 3) by omega)]
    rw [hm]
    exact cw_ret2 rfl rfl rfl ⟨Keep.refl _ _, _, rfl, Ps.nil _⟩
  repeat (first
    | refine x_move rfl rfl rfl trivial ?_
    | refine x_assign rfl rfl rfl trivial ?_
    | refine x_add rfl rfl rfl (wrap_i64 (by omega) (by omega)) rfl trivial ?_
    | refine x_sub_ rfl rfl rfl (wrap_i64 (by omega) (by omega)) rfl trivial ?_
    | refine x_mul rfl rfl rfl (wrap_i64 (by omega) (by omega)) rfl trivial ?_
    | refine x_ibin rfl rfl rfl rfl rfl trivial ?_
    | refine x_neg_ rfl rfl (wrap_i64 (by omega) (by omega)) rfl trivial ?_
    | refine x_len rfl rfl (by assumption) rfl trivial ?_
    | refine x_pick_t rfl rfl rfl rfl trivial ?_
    | refine x_pick_f rfl rfl rfl rfl trivial ?_
    | refine x_not rfl rfl rfl trivial ?_
    | refine x_beq rfl rfl rfl rfl trivial ?_
    | refine x_bne rfl rfl rfl rfl trivial ?_
    | refine x_extract rfl rfl rfl rfl trivial ?_
    | refine x_nilCheck rfl rfl rfl trivial ?_
    | refine x_fieldAddr rfl rfl rfl rfl trivial ?_
    | refine x_skip trivial rfl rfl rfl ?_
    | refine x_indexAddr1 rfl rfl rfl (by assumption) (by omega) (by omega) rfl trivial ?_
    | refine x_indexAddr rfl rfl rfl (by assumption) (by omega) (by omega) rfl trivial ?_
    | refine x_nil ?_
    | refine cw_seq ?_
    | refine nw_seq ?_
    | refine nw_block ?_
    | refine cw_block ?_
    | refine cw_skip ?_
    | refine cw_region ?_
    | refine cw_exit rfl ?_
    | refine cw_true rfl ?_
    | refine cw_false rfl ?_)
  refine x_split 31 rfl (fun h3 => ?_) (fun h3 => ?_) <;> (try simp at h3)
  · repeat (first
      | refine x_move rfl rfl rfl trivial ?_
      | refine x_assign rfl rfl rfl trivial ?_
      | refine x_add rfl rfl rfl (wrap_i64 (by omega) (by omega)) rfl trivial ?_
      | refine x_sub_ rfl rfl rfl (wrap_i64 (by omega) (by omega)) rfl trivial ?_
      | refine x_mul rfl rfl rfl (wrap_i64 (by omega) (by omega)) rfl trivial ?_
      | refine x_ibin rfl rfl rfl rfl rfl trivial ?_
      | refine x_neg_ rfl rfl (wrap_i64 (by omega) (by omega)) rfl trivial ?_
      | refine x_len rfl rfl (by assumption) rfl trivial ?_
      | refine x_pick_t rfl rfl rfl rfl trivial ?_
      | refine x_pick_f rfl rfl rfl rfl trivial ?_
      | refine x_not rfl rfl rfl trivial ?_
      | refine x_beq rfl rfl rfl rfl trivial ?_
      | refine x_bne rfl rfl rfl rfl trivial ?_
      | refine x_extract rfl rfl rfl rfl trivial ?_
      | refine x_nilCheck rfl rfl rfl trivial ?_
      | refine x_fieldAddr rfl rfl rfl rfl trivial ?_
      | refine x_skip trivial rfl rfl rfl ?_
      | refine x_indexAddr1 rfl rfl rfl (by assumption) (by omega) (by omega) rfl trivial ?_
      | refine x_indexAddr rfl rfl rfl (by assumption) (by omega) (by omega) rfl trivial ?_
      | refine x_nil ?_
      | refine cw_seq ?_
      | refine nw_seq ?_
      | refine nw_block ?_
      | refine cw_block ?_
      | refine cw_skip ?_
      | refine cw_region ?_
      | refine cw_exit rfl ?_
      | refine cw_true rfl ?_
      | refine cw_false rfl ?_)
    have hm : mof op policy la lb = (none, 2) := by simp only [mof, if_pos (show ¬ (1 ≤ op ∧ op ≤ 3) ∨ ¬ (1 ≤ policy ∧ policy ≤ 3) by omega)]
    rw [hm]
    exact cw_ret2 rfl rfl rfl ⟨Keep.refl _ _, _, rfl, Ps.nil _⟩
  repeat (first
    | refine x_move rfl rfl rfl trivial ?_
    | refine x_assign rfl rfl rfl trivial ?_
    | refine x_add rfl rfl rfl (wrap_i64 (by omega) (by omega)) rfl trivial ?_
    | refine x_sub_ rfl rfl rfl (wrap_i64 (by omega) (by omega)) rfl trivial ?_
    | refine x_mul rfl rfl rfl (wrap_i64 (by omega) (by omega)) rfl trivial ?_
    | refine x_ibin rfl rfl rfl rfl rfl trivial ?_
    | refine x_neg_ rfl rfl (wrap_i64 (by omega) (by omega)) rfl trivial ?_
    | refine x_len rfl rfl (by assumption) rfl trivial ?_
    | refine x_pick_t rfl rfl rfl rfl trivial ?_
    | refine x_pick_f rfl rfl rfl rfl trivial ?_
    | refine x_not rfl rfl rfl trivial ?_
    | refine x_beq rfl rfl rfl rfl trivial ?_
    | refine x_bne rfl rfl rfl rfl trivial ?_
    | refine x_extract rfl rfl rfl rfl trivial ?_
    | refine x_nilCheck rfl rfl rfl trivial ?_
    | refine x_fieldAddr rfl rfl rfl rfl trivial ?_
    | refine x_skip trivial rfl rfl rfl ?_
    | refine x_indexAddr1 rfl rfl rfl (by assumption) (by omega) (by omega) rfl trivial ?_
    | refine x_indexAddr rfl rfl rfl (by assumption) (by omega) (by omega) rfl trivial ?_
    | refine x_nil ?_
    | refine cw_seq ?_
    | refine nw_seq ?_
    | refine nw_block ?_
    | refine cw_block ?_
    | refine cw_skip ?_
    | refine cw_region ?_
    | refine cw_exit rfl ?_
    | refine cw_true rfl ?_
    | refine cw_false rfl ?_)
  refine cw_cond rfl (fun h4 => ?_) (fun h4 => ?_) <;> (try simp at h4)
  · repeat (first
      | refine x_move rfl rfl rfl trivial ?_
      | refine x_assign rfl rfl rfl trivial ?_
      | refine x_add rfl rfl rfl (wrap_i64 (by omega) (by omega)) rfl trivial ?_
      | refine x_sub_ rfl rfl rfl (wrap_i64 (by omega) (by omega)) rfl trivial ?_
      | refine x_mul rfl rfl rfl (wrap_i64 (by omega) (by omega)) rfl trivial ?_
      | refine x_ibin rfl rfl rfl rfl rfl trivial ?_
      | refine x_neg_ rfl rfl (wrap_i64 (by omega) (by omega)) rfl trivial ?_
      | refine x_len rfl rfl (by assumption) rfl trivial ?_
      | refine x_pick_t rfl rfl rfl rfl trivial ?_
      | refine x_pick_f rfl rfl rfl rfl trivial ?_
      | refine x_not rfl rfl rfl trivial ?_
      | refine x_beq rfl rfl rfl rfl trivial ?_
      | refine x_bne rfl rfl rfl rfl trivial ?_
      | refine x_extract rfl rfl rfl rfl trivial ?_
      | refine x_nilCheck rfl rfl rfl trivial ?_
      | refine x_fieldAddr rfl rfl rfl rfl trivial ?_
      | refine x_skip trivial rfl rfl rfl ?_
      | refine x_indexAddr1 rfl rfl rfl (by assumption) (by omega) (by omega) rfl trivial ?_
      | refine x_indexAddr rfl rfl rfl (by assumption) (by omega) (by omega) rfl trivial ?_
      | refine x_nil ?_
      | refine cw_seq ?_
      | refine nw_seq ?_
      | refine nw_block ?_
      | refine cw_block ?_
      | refine cw_skip ?_
      | refine cw_region ?_
      | refine cw_exit rfl ?_
      | refine cw_true rfl ?_
      | refine cw_false rfl ?_)
    have hm : mof op policy la lb = (none, 2) := by simp only [mof, if_pos (show ¬ (1 ≤ op ∧ op ≤ 3) ∨ ¬ (1 ≤ policy ∧ policy ≤ 3) by omega)]
    rw [hm]
    exact cw_ret2 rfl rfl rfl ⟨Keep.refl _ _, _, rfl, Ps.nil _⟩
  have h12 : ¬ (¬ (1 ≤ op ∧ op ≤ 3) ∨ ¬ (1 ≤ policy ∧ policy ≤ 3)) := by omega
  repeat (first
    | refine x_move rfl rfl rfl trivial ?_
    | refine x_assign rfl rfl rfl trivial ?_
    | refine x_add rfl rfl rfl (wrap_i64 (by omega) (by omega)) rfl trivial ?_
    | refine x_sub_ rfl rfl rfl (wrap_i64 (by omega) (by omega)) rfl trivial ?_
    | refine x_mul rfl rfl rfl (wrap_i64 (by omega) (by omega)) rfl trivial ?_
    | refine x_ibin rfl rfl rfl rfl rfl trivial ?_
    | refine x_neg_ rfl rfl (wrap_i64 (by omega) (by omega)) rfl trivial ?_
    | refine x_len rfl rfl (by assumption) rfl trivial ?_
    | refine x_pick_t rfl rfl rfl rfl trivial ?_
    | refine x_pick_f rfl rfl rfl rfl trivial ?_
    | refine x_not rfl rfl rfl trivial ?_
    | refine x_beq rfl rfl rfl rfl trivial ?_
    | refine x_bne rfl rfl rfl rfl trivial ?_
    | refine x_extract rfl rfl rfl rfl trivial ?_
    | refine x_nilCheck rfl rfl rfl trivial ?_
    | refine x_fieldAddr rfl rfl rfl rfl trivial ?_
    | refine x_skip trivial rfl rfl rfl ?_
    | refine x_indexAddr1 rfl rfl rfl (by assumption) (by omega) (by omega) rfl trivial ?_
    | refine x_indexAddr rfl rfl rfl (by assumption) (by omega) (by omega) rfl trivial ?_
    | refine x_nil ?_
    | refine cw_seq ?_
    | refine nw_seq ?_
    | refine nw_block ?_
    | refine cw_block ?_
    | refine cw_skip ?_
    | refine cw_region ?_
    | refine cw_exit rfl ?_
    | refine cw_true rfl ?_
    | refine cw_false rfl ?_)
  refine x_call rfl rfl rfl trivial (ref_Rises hA) ?_
  rintro _ _ ⟨rfl, rfl⟩
  refine ⟨trivial, ?_⟩
  repeat (first
    | refine x_move rfl rfl rfl trivial ?_
    | refine x_assign rfl rfl rfl trivial ?_
    | refine x_add rfl rfl rfl (wrap_i64 (by omega) (by omega)) rfl trivial ?_
    | refine x_sub_ rfl rfl rfl (wrap_i64 (by omega) (by omega)) rfl trivial ?_
    | refine x_mul rfl rfl rfl (wrap_i64 (by omega) (by omega)) rfl trivial ?_
    | refine x_ibin rfl rfl rfl rfl rfl trivial ?_
    | refine x_neg_ rfl rfl (wrap_i64 (by omega) (by omega)) rfl trivial ?_
    | refine x_len rfl rfl (by assumption) rfl trivial ?_
    | refine x_pick_t rfl rfl rfl rfl trivial ?_
    | refine x_pick_f rfl rfl rfl rfl trivial ?_
    | refine x_not rfl rfl rfl trivial ?_
    | refine x_beq rfl rfl rfl rfl trivial ?_
    | refine x_bne rfl rfl rfl rfl trivial ?_
    | refine x_extract rfl rfl rfl rfl trivial ?_
    | refine x_nilCheck rfl rfl rfl trivial ?_
    | refine x_fieldAddr rfl rfl rfl rfl trivial ?_
    | refine x_skip trivial rfl rfl rfl ?_
    | refine x_indexAddr1 rfl rfl rfl (by assumption) (by omega) (by omega) rfl trivial ?_
    | refine x_indexAddr rfl rfl rfl (by assumption) (by omega) (by omega) rfl trivial ?_
    | refine x_nil ?_
    | refine cw_seq ?_
    | refine nw_seq ?_
    | refine nw_block ?_
    | refine cw_block ?_
    | refine cw_skip ?_
    | refine cw_region ?_
    | refine cw_exit rfl ?_
    | refine cw_true rfl ?_
    | refine cw_false rfl ?_)
  rcases h5 : rises la with _ | _
  · repeat (first
      | refine x_move rfl rfl rfl trivial ?_
      | refine x_assign rfl rfl rfl trivial ?_
      | refine x_add rfl rfl rfl (wrap_i64 (by omega) (by omega)) rfl trivial ?_
      | refine x_sub_ rfl rfl rfl (wrap_i64 (by omega) (by omega)) rfl trivial ?_
      | refine x_mul rfl rfl rfl (wrap_i64 (by omega) (by omega)) rfl trivial ?_
      | refine x_ibin rfl rfl rfl rfl rfl trivial ?_
      | refine x_neg_ rfl rfl (wrap_i64 (by omega) (by omega)) rfl trivial ?_
      | refine x_len rfl rfl (by assumption) rfl trivial ?_
      | refine x_pick_t rfl rfl rfl rfl trivial ?_
      | refine x_pick_f rfl rfl rfl rfl trivial ?_
      | refine x_not rfl rfl rfl trivial ?_
      | refine x_beq rfl rfl rfl rfl trivial ?_
      | refine x_bne rfl rfl rfl rfl trivial ?_
      | refine x_extract rfl rfl rfl rfl trivial ?_
      | refine x_nilCheck rfl rfl rfl trivial ?_
      | refine x_fieldAddr rfl rfl rfl rfl trivial ?_
      | refine x_skip trivial rfl rfl rfl ?_
      | refine x_indexAddr1 rfl rfl rfl (by assumption) (by omega) (by omega) rfl trivial ?_
      | refine x_indexAddr rfl rfl rfl (by assumption) (by omega) (by omega) rfl trivial ?_
      | refine x_nil ?_
      | refine cw_seq ?_
      | refine nw_seq ?_
      | refine nw_block ?_
      | refine cw_block ?_
      | refine cw_skip ?_
      | refine cw_region ?_
      | refine cw_exit rfl ?_
      | refine cw_true rfl ?_
      | refine cw_false rfl ?_)
    have hm : mof op policy la lb = (none, 9) := by simp only [mof, if_neg h12, if_pos (show rises la = false ∨ rises lb = false from .inl h5)]
    rw [hm]
    exact cw_ret2 rfl rfl rfl ⟨Keep.refl _ _, _, rfl, Ps.nil _⟩
  repeat (first
    | refine x_move rfl rfl rfl trivial ?_
    | refine x_assign rfl rfl rfl trivial ?_
    | refine x_add rfl rfl rfl (wrap_i64 (by omega) (by omega)) rfl trivial ?_
    | refine x_sub_ rfl rfl rfl (wrap_i64 (by omega) (by omega)) rfl trivial ?_
    | refine x_mul rfl rfl rfl (wrap_i64 (by omega) (by omega)) rfl trivial ?_
    | refine x_ibin rfl rfl rfl rfl rfl trivial ?_
    | refine x_neg_ rfl rfl (wrap_i64 (by omega) (by omega)) rfl trivial ?_
    | refine x_len rfl rfl (by assumption) rfl trivial ?_
    | refine x_pick_t rfl rfl rfl rfl trivial ?_
    | refine x_pick_f rfl rfl rfl rfl trivial ?_
    | refine x_not rfl rfl rfl trivial ?_
    | refine x_beq rfl rfl rfl rfl trivial ?_
    | refine x_bne rfl rfl rfl rfl trivial ?_
    | refine x_extract rfl rfl rfl rfl trivial ?_
    | refine x_nilCheck rfl rfl rfl trivial ?_
    | refine x_fieldAddr rfl rfl rfl rfl trivial ?_
    | refine x_skip trivial rfl rfl rfl ?_
    | refine x_indexAddr1 rfl rfl rfl (by assumption) (by omega) (by omega) rfl trivial ?_
    | refine x_indexAddr rfl rfl rfl (by assumption) (by omega) (by omega) rfl trivial ?_
    | refine x_nil ?_
    | refine cw_seq ?_
    | refine nw_seq ?_
    | refine nw_block ?_
    | refine cw_block ?_
    | refine cw_skip ?_
    | refine cw_region ?_
    | refine cw_exit rfl ?_
    | refine cw_true rfl ?_
    | refine cw_false rfl ?_)
  refine x_call rfl rfl rfl trivial (ref_Rises hB) ?_
  rintro _ _ ⟨rfl, rfl⟩
  refine ⟨trivial, ?_⟩
  repeat (first
    | refine x_move rfl rfl rfl trivial ?_
    | refine x_assign rfl rfl rfl trivial ?_
    | refine x_add rfl rfl rfl (wrap_i64 (by omega) (by omega)) rfl trivial ?_
    | refine x_sub_ rfl rfl rfl (wrap_i64 (by omega) (by omega)) rfl trivial ?_
    | refine x_mul rfl rfl rfl (wrap_i64 (by omega) (by omega)) rfl trivial ?_
    | refine x_ibin rfl rfl rfl rfl rfl trivial ?_
    | refine x_neg_ rfl rfl (wrap_i64 (by omega) (by omega)) rfl trivial ?_
    | refine x_len rfl rfl (by assumption) rfl trivial ?_
    | refine x_pick_t rfl rfl rfl rfl trivial ?_
    | refine x_pick_f rfl rfl rfl rfl trivial ?_
    | refine x_not rfl rfl rfl trivial ?_
    | refine x_beq rfl rfl rfl rfl trivial ?_
    | refine x_bne rfl rfl rfl rfl trivial ?_
    | refine x_extract rfl rfl rfl rfl trivial ?_
    | refine x_nilCheck rfl rfl rfl trivial ?_
    | refine x_fieldAddr rfl rfl rfl rfl trivial ?_
    | refine x_skip trivial rfl rfl rfl ?_
    | refine x_indexAddr1 rfl rfl rfl (by assumption) (by omega) (by omega) rfl trivial ?_
    | refine x_indexAddr rfl rfl rfl (by assumption) (by omega) (by omega) rfl trivial ?_
    | refine x_nil ?_
    | refine cw_seq ?_
    | refine nw_seq ?_
    | refine nw_block ?_
    | refine cw_block ?_
    | refine cw_skip ?_
    | refine cw_region ?_
    | refine cw_exit rfl ?_
    | refine cw_true rfl ?_
    | refine cw_false rfl ?_)
  rcases h6 : rises lb with _ | _
  · repeat (first
      | refine x_move rfl rfl rfl trivial ?_
      | refine x_assign rfl rfl rfl trivial ?_
      | refine x_add rfl rfl rfl (wrap_i64 (by omega) (by omega)) rfl trivial ?_
      | refine x_sub_ rfl rfl rfl (wrap_i64 (by omega) (by omega)) rfl trivial ?_
      | refine x_mul rfl rfl rfl (wrap_i64 (by omega) (by omega)) rfl trivial ?_
      | refine x_ibin rfl rfl rfl rfl rfl trivial ?_
      | refine x_neg_ rfl rfl (wrap_i64 (by omega) (by omega)) rfl trivial ?_
      | refine x_len rfl rfl (by assumption) rfl trivial ?_
      | refine x_pick_t rfl rfl rfl rfl trivial ?_
      | refine x_pick_f rfl rfl rfl rfl trivial ?_
      | refine x_not rfl rfl rfl trivial ?_
      | refine x_beq rfl rfl rfl rfl trivial ?_
      | refine x_bne rfl rfl rfl rfl trivial ?_
      | refine x_extract rfl rfl rfl rfl trivial ?_
      | refine x_nilCheck rfl rfl rfl trivial ?_
      | refine x_fieldAddr rfl rfl rfl rfl trivial ?_
      | refine x_skip trivial rfl rfl rfl ?_
      | refine x_indexAddr1 rfl rfl rfl (by assumption) (by omega) (by omega) rfl trivial ?_
      | refine x_indexAddr rfl rfl rfl (by assumption) (by omega) (by omega) rfl trivial ?_
      | refine x_nil ?_
      | refine cw_seq ?_
      | refine nw_seq ?_
      | refine nw_block ?_
      | refine cw_block ?_
      | refine cw_skip ?_
      | refine cw_region ?_
      | refine cw_exit rfl ?_
      | refine cw_true rfl ?_
      | refine cw_false rfl ?_)
    have hm : mof op policy la lb = (none, 9) := by simp only [mof, if_neg h12, if_pos (show rises la = false ∨ rises lb = false from .inr h6)]
    rw [hm]
    exact cw_ret2 rfl rfl rfl ⟨Keep.refl _ _, _, rfl, Ps.nil _⟩
  have h34 : ¬ (rises la = false ∨ rises lb = false) := by rw [h5, h6]; simp
  have hm : mof op policy la lb = (some (mrg op policy la lb), 0) := by simp only [mof, if_neg h12, if_neg h34]
  rw [hm]
  repeat (first
    | refine x_move rfl rfl rfl trivial ?_
    | refine x_assign rfl rfl rfl trivial ?_
    | refine x_add rfl rfl rfl (wrap_i64 (by omega) (by omega)) rfl trivial ?_
    | refine x_sub_ rfl rfl rfl (wrap_i64 (by omega) (by omega)) rfl trivial ?_
    | refine x_mul rfl rfl rfl (wrap_i64 (by omega) (by omega)) rfl trivial ?_
    | refine x_ibin rfl rfl rfl rfl rfl trivial ?_
    | refine x_neg_ rfl rfl (wrap_i64 (by omega) (by omega)) rfl trivial ?_
    | refine x_len rfl rfl (by assumption) rfl trivial ?_
    | refine x_pick_t rfl rfl rfl rfl trivial ?_
    | refine x_pick_f rfl rfl rfl rfl trivial ?_
    | refine x_not rfl rfl rfl trivial ?_
    | refine x_beq rfl rfl rfl rfl trivial ?_
    | refine x_bne rfl rfl rfl rfl trivial ?_
    | refine x_extract rfl rfl rfl rfl trivial ?_
    | refine x_nilCheck rfl rfl rfl trivial ?_
    | refine x_fieldAddr rfl rfl rfl rfl trivial ?_
    | refine x_skip trivial rfl rfl rfl ?_
    | refine x_indexAddr1 rfl rfl rfl (by assumption) (by omega) (by omega) rfl trivial ?_
    | refine x_indexAddr rfl rfl rfl (by assumption) (by omega) (by omega) rfl trivial ?_
    | refine x_nil ?_
    | refine cw_seq ?_
    | refine nw_seq ?_
    | refine nw_block ?_
    | refine cw_block ?_
    | refine cw_skip ?_
    | refine cw_region ?_
    | refine cw_exit rfl ?_
    | refine cw_true rfl ?_
    | refine cw_false rfl ?_)
  refine x_build (cs := [va]) rfl rfl rfl (by simp [isSl_oneC sA]) rfl trivial ?_
  refine x_box rfl rfl rfl trivial ?_
  intro H1 hn1
  refine ⟨trivial, ?_⟩
  repeat (first
    | refine x_move rfl rfl rfl trivial ?_
    | refine x_assign rfl rfl rfl trivial ?_
    | refine x_add rfl rfl rfl (wrap_i64 (by omega) (by omega)) rfl trivial ?_
    | refine x_sub_ rfl rfl rfl (wrap_i64 (by omega) (by omega)) rfl trivial ?_
    | refine x_mul rfl rfl rfl (wrap_i64 (by omega) (by omega)) rfl trivial ?_
    | refine x_ibin rfl rfl rfl rfl rfl trivial ?_
    | refine x_neg_ rfl rfl (wrap_i64 (by omega) (by omega)) rfl trivial ?_
    | refine x_len rfl rfl (by assumption) rfl trivial ?_
    | refine x_pick_t rfl rfl rfl rfl trivial ?_
    | refine x_pick_f rfl rfl rfl rfl trivial ?_
    | refine x_not rfl rfl rfl trivial ?_
    | refine x_beq rfl rfl rfl rfl trivial ?_
    | refine x_bne rfl rfl rfl rfl trivial ?_
    | refine x_extract rfl rfl rfl rfl trivial ?_
    | refine x_nilCheck rfl rfl rfl trivial ?_
    | refine x_fieldAddr rfl rfl rfl rfl trivial ?_
    | refine x_skip trivial rfl rfl rfl ?_
    | refine x_indexAddr1 rfl rfl rfl (by assumption) (by omega) (by omega) rfl trivial ?_
    | refine x_indexAddr rfl rfl rfl (by assumption) (by omega) (by omega) rfl trivial ?_
    | refine x_nil ?_
    | refine cw_seq ?_
    | refine nw_seq ?_
    | refine nw_block ?_
    | refine cw_block ?_
    | refine cw_skip ?_
    | refine cw_region ?_
    | refine cw_exit rfl ?_
    | refine cw_true rfl ?_
    | refine cw_false rfl ?_)
  refine x_build (cs := [vb]) rfl rfl rfl (by simp [isSl_oneC sB]) rfl trivial ?_
  refine x_box rfl rfl rfl trivial ?_
  intro H2 hn2
  refine ⟨trivial, ?_⟩
  have hk2 := hn2.old hn1.keep
  have hMa : Mp H2 H.size la := ⟨va, hn1.blk.keep hn2.keep (fun h => h), hA.keepN hk2⟩
  have hMb : Mp H2 H1.size lb := ⟨vb, hn2.blk, hB.keepN hk2⟩
  have hs1 := hn1.size
  have hs2 := hn2.size
  repeat (first
    | refine x_move rfl rfl rfl trivial ?_
    | refine x_assign rfl rfl rfl trivial ?_
    | refine x_add rfl rfl rfl (wrap_i64 (by omega) (by omega)) rfl trivial ?_
    | refine x_sub_ rfl rfl rfl (wrap_i64 (by omega) (by omega)) rfl trivial ?_
    | refine x_mul rfl rfl rfl (wrap_i64 (by omega) (by omega)) rfl trivial ?_
    | refine x_ibin rfl rfl rfl rfl rfl trivial ?_
    | refine x_neg_ rfl rfl (wrap_i64 (by omega) (by omega)) rfl trivial ?_
    | refine x_len rfl rfl (by assumption) rfl trivial ?_
    | refine x_pick_t rfl rfl rfl rfl trivial ?_
    | refine x_pick_f rfl rfl rfl rfl trivial ?_
    | refine x_not rfl rfl rfl trivial ?_
    | refine x_beq rfl rfl rfl rfl trivial ?_
    | refine x_bne rfl rfl rfl rfl trivial ?_
    | refine x_extract rfl rfl rfl rfl trivial ?_
    | refine x_nilCheck rfl rfl rfl trivial ?_
    | refine x_fieldAddr rfl rfl rfl rfl trivial ?_
    | refine x_skip trivial rfl rfl rfl ?_
    | refine x_indexAddr1 rfl rfl rfl (by assumption) (by omega) (by omega) rfl trivial ?_
    | refine x_indexAddr rfl rfl rfl (by assumption) (by omega) (by omega) rfl trivial ?_
    | refine x_nil ?_
    | refine cw_seq ?_
    | refine nw_seq ?_
    | refine nw_block ?_
    | refine cw_block ?_
    | refine cw_skip ?_
    | refine cw_region ?_
    | refine cw_exit rfl ?_
    | refine cw_true rfl ?_
    | refine cw_false rfl ?_)
  refine cw_loop (fun (s : Nat × Nat × Value × List Pr) => [(0, .int .i64 op), (1, .int .i64 policy), (2, va), (3, vb), (10, ptr H.size 0), (11, ptr H1.size 0), (12, s.2.2.1), (13, .int .i64 s.1), (14, .int .i64 s.2.1)])
    (fun s H' => s.1 ≤ la.length ∧ s.2.1 ≤ lb.length ∧ (∀ (j i : Nat) (p q : Pr), j < s.2.1 → s.1 ≤ i → lb[j]? = some p → la[i]? = some q → cmpB p.1 q.1 = -1) ∧ (∀ (j i : Nat) (p q : Pr), j < s.1 → s.2.1 ≤ i → la[j]? = some p → lb[i]? = some q → cmpB p.1 q.1 = -1)
      ∧ s.2.2.2.length ≤ s.1 + s.2.1 ∧ s.2.2.2 ++ mrg op policy (la.drop s.1) (lb.drop s.2.1) = mrg op policy la lb ∧ Keep Non H2 H' ∧ Po H2.size H' s.2.2.1 s.2.2.2)
    (fun s => la.length - s.1 + (lb.length - s.2.1)) (0, 0, _, []) ⟨rfl, rfl, rfl, rfl, rfl, rfl, rfl, rfl, rfl, trivial⟩ ⟨Nat.zero_le _, Nat.zero_le _, fun j i p q h => absurd h (Nat.not_lt_zero _), fun j i p q h => absurd h (Nat.not_lt_zero _), Nat.zero_le _, by simp, Keep.refl _ _, Po.nil _ _⟩ ?_
  rintro ⟨i, k, o, out⟩ H3 ⟨hi, hk, hI1, hI2, hol, hout, hkk, hP⟩
  simp only at hi hk hI1 hI2 hol hout hP
  have hk03 := hk2.non_trans hkk
  have hA3 := hA.keepN hk03
  have hB3 := hB.keepN hk03
  repeat (first
    | refine x_move rfl rfl rfl trivial ?_
    | refine x_assign rfl rfl rfl trivial ?_
    | refine x_add rfl rfl rfl (wrap_i64 (by omega) (by omega)) rfl trivial ?_
    | refine x_sub_ rfl rfl rfl (wrap_i64 (by omega) (by omega)) rfl trivial ?_
    | refine x_mul rfl rfl rfl (wrap_i64 (by omega) (by omega)) rfl trivial ?_
    | refine x_ibin rfl rfl rfl rfl rfl trivial ?_
    | refine x_neg_ rfl rfl (wrap_i64 (by omega) (by omega)) rfl trivial ?_
    | refine x_len rfl rfl (by assumption) rfl trivial ?_
    | refine x_pick_t rfl rfl rfl rfl trivial ?_
    | refine x_pick_f rfl rfl rfl rfl trivial ?_
    | refine x_not rfl rfl rfl trivial ?_
    | refine x_beq rfl rfl rfl rfl trivial ?_
    | refine x_bne rfl rfl rfl rfl trivial ?_
    | refine x_extract rfl rfl rfl rfl trivial ?_
    | refine x_nilCheck rfl rfl rfl trivial ?_
    | refine x_fieldAddr rfl rfl rfl rfl trivial ?_
    | refine x_skip trivial rfl rfl rfl ?_
    | refine x_indexAddr1 rfl rfl rfl (by assumption) (by omega) (by omega) rfl trivial ?_
    | refine x_indexAddr rfl rfl rfl (by assumption) (by omega) (by omega) rfl trivial ?_
    | refine x_nil ?_
    | refine cw_seq ?_
    | refine nw_seq ?_
    | refine nw_block ?_
    | refine cw_block ?_
    | refine cw_skip ?_
    | refine cw_exit rfl ?_
    | refine cw_true rfl ?_
    | refine cw_false rfl ?_)
  refine cw_cut (fun w : Bool => [(0, .int .i64 op), (1, .int .i64 policy), (2, va), (3, vb), (10, ptr H.size 0), (11, ptr H1.size 0), (12, o), (13, .int .i64 (i : Int)), (14, .int .i64 (k : Int)), (59, .bool w)]) (fun w H' => H3 = H' ∧ w = decide (i < la.length ∨ k < lb.length)) ?_ ?_
  · repeat (first
      | refine x_move rfl rfl rfl trivial ?_
      | refine x_assign rfl rfl rfl trivial ?_
      | refine x_add rfl rfl rfl (wrap_i64 (by omega) (by omega)) rfl trivial ?_
      | refine x_sub_ rfl rfl rfl (wrap_i64 (by omega) (by omega)) rfl trivial ?_
      | refine x_mul rfl rfl rfl (wrap_i64 (by omega) (by omega)) rfl trivial ?_
      | refine x_ibin rfl rfl rfl rfl rfl trivial ?_
      | refine x_neg_ rfl rfl (wrap_i64 (by omega) (by omega)) rfl trivial ?_
      | refine x_len rfl rfl (by assumption) rfl trivial ?_
      | refine x_pick_t rfl rfl rfl rfl trivial ?_
      | refine x_pick_f rfl rfl rfl rfl trivial ?_
      | refine x_not rfl rfl rfl trivial ?_
      | refine x_beq rfl rfl rfl rfl trivial ?_
      | refine x_bne rfl rfl rfl rfl trivial ?_
      | refine x_extract rfl rfl rfl rfl trivial ?_
      | refine x_nilCheck rfl rfl rfl trivial ?_
      | refine x_fieldAddr rfl rfl rfl rfl trivial ?_
      | refine x_skip trivial rfl rfl rfl ?_
      | refine x_indexAddr1 rfl rfl rfl (by assumption) (by omega) (by omega) rfl trivial ?_
      | refine x_indexAddr rfl rfl rfl (by assumption) (by omega) (by omega) rfl trivial ?_
      | refine x_nil ?_
      | refine cw_seq ?_
      | refine nw_seq ?_
      | refine nw_block ?_
      | refine cw_block ?_
      | refine cw_skip ?_
      | refine cw_region ?_
      | refine cw_exit rfl ?_
      | refine cw_true rfl ?_
      | refine cw_false rfl ?_)
    refine x_split 54 rfl (fun g1 => ?_) (fun g1 => ?_) <;> (try simp at g1)
    · repeat (first
        | refine x_move rfl rfl rfl trivial ?_
        | refine x_assign rfl rfl rfl trivial ?_
        | refine x_add rfl rfl rfl (wrap_i64 (by omega) (by omega)) rfl trivial ?_
        | refine x_sub_ rfl rfl rfl (wrap_i64 (by omega) (by omega)) rfl trivial ?_
        | refine x_mul rfl rfl rfl (wrap_i64 (by omega) (by omega)) rfl trivial ?_
        | refine x_ibin rfl rfl rfl rfl rfl trivial ?_
        | refine x_neg_ rfl rfl (wrap_i64 (by omega) (by omega)) rfl trivial ?_
        | refine x_len rfl rfl (by assumption) rfl trivial ?_
        | refine x_pick_t rfl rfl rfl rfl trivial ?_
        | refine x_pick_f rfl rfl rfl rfl trivial ?_
        | refine x_not rfl rfl rfl trivial ?_
        | refine x_beq rfl rfl rfl rfl trivial ?_
        | refine x_bne rfl rfl rfl rfl trivial ?_
        | refine x_extract rfl rfl rfl rfl trivial ?_
        | refine x_nilCheck rfl rfl rfl trivial ?_
        | refine x_fieldAddr rfl rfl rfl rfl trivial ?_
        | refine x_skip trivial rfl rfl rfl ?_
        | refine x_indexAddr1 rfl rfl rfl (by assumption) (by omega) (by omega) rfl trivial ?_
        | refine x_indexAddr rfl rfl rfl (by assumption) (by omega) (by omega) rfl trivial ?_
        | refine x_nil ?_
        | refine cw_seq ?_
        | refine nw_seq ?_
        | refine nw_block ?_
        | refine cw_block ?_
        | refine cw_skip ?_
        | refine cw_region ?_
        | refine cw_exit rfl ?_
        | refine cw_true rfl ?_
        | refine cw_false rfl ?_)
      exact nw_meet true ⟨rfl, rfl, rfl, rfl, rfl, rfl, rfl, rfl, rfl, rfl, trivial⟩ ⟨rfl, by symm; simp; omega⟩
    · repeat (first
        | refine x_move rfl rfl rfl trivial ?_
        | refine x_assign rfl rfl rfl trivial ?_
        | refine x_add rfl rfl rfl (wrap_i64 (by omega) (by omega)) rfl trivial ?_
        | refine x_sub_ rfl rfl rfl (wrap_i64 (by omega) (by omega)) rfl trivial ?_
        | refine x_mul rfl rfl rfl (wrap_i64 (by omega) (by omega)) rfl trivial ?_
        | refine x_ibin rfl rfl rfl rfl rfl trivial ?_
        | refine x_neg_ rfl rfl (wrap_i64 (by omega) (by omega)) rfl trivial ?_
        | refine x_len rfl rfl (by assumption) rfl trivial ?_
        | refine x_pick_t rfl rfl rfl rfl trivial ?_
        | refine x_pick_f rfl rfl rfl rfl trivial ?_
        | refine x_not rfl rfl rfl trivial ?_
        | refine x_beq rfl rfl rfl rfl trivial ?_
        | refine x_bne rfl rfl rfl rfl trivial ?_
        | refine x_extract rfl rfl rfl rfl trivial ?_
        | refine x_nilCheck rfl rfl rfl trivial ?_
        | refine x_fieldAddr rfl rfl rfl rfl trivial ?_
        | refine x_skip trivial rfl rfl rfl ?_
        | refine x_indexAddr1 rfl rfl rfl (by assumption) (by omega) (by omega) rfl trivial ?_
        | refine x_indexAddr rfl rfl rfl (by assumption) (by omega) (by omega) rfl trivial ?_
        | refine x_nil ?_
        | refine cw_seq ?_
        | refine nw_seq ?_
        | refine nw_block ?_
        | refine cw_block ?_
        | refine cw_skip ?_
        | refine cw_region ?_
        | refine cw_exit rfl ?_
        | refine cw_true rfl ?_
        | refine cw_false rfl ?_)
      refine nw_meet (decide (k < lb.length)) ⟨rfl, rfl, rfl, rfl, rfl, rfl, rfl, rfl, rfl, ?_, trivial⟩ ⟨rfl, ?_⟩
      · show some (Value.bool (decide ((k : Int) < (lb.length : Int)))) = _
        congr 2
        simp
      · have : ¬ i < la.length := by omega
        simp [this]
  rintro w _ ⟨rfl, rfl⟩
  by_cases g : i < la.length ∨ k < lb.length
  case neg =>
    rw [decide_eq_false g]
    have e1 : i = la.length := by omega
    have e2 : k = lb.length := by omega
    subst e1 e2
    rw [List.drop_length, List.drop_length, mrg_nil_l] at hout
    have ho2 : mrg op policy la lb = out := by rw [← hout]; split <;> simp
    repeat (first
      | refine x_move rfl rfl rfl trivial ?_
      | refine x_assign rfl rfl rfl trivial ?_
      | refine x_add rfl rfl rfl (wrap_i64 (by omega) (by omega)) rfl trivial ?_
      | refine x_sub_ rfl rfl rfl (wrap_i64 (by omega) (by omega)) rfl trivial ?_
      | refine x_mul rfl rfl rfl (wrap_i64 (by omega) (by omega)) rfl trivial ?_
      | refine x_ibin rfl rfl rfl rfl rfl trivial ?_
      | refine x_neg_ rfl rfl (wrap_i64 (by omega) (by omega)) rfl trivial ?_
      | refine x_len rfl rfl (by assumption) rfl trivial ?_
      | refine x_pick_t rfl rfl rfl rfl trivial ?_
      | refine x_pick_f rfl rfl rfl rfl trivial ?_
      | refine x_not rfl rfl rfl trivial ?_
      | refine x_beq rfl rfl rfl rfl trivial ?_
      | refine x_bne rfl rfl rfl rfl trivial ?_
      | refine x_extract rfl rfl rfl rfl trivial ?_
      | refine x_nilCheck rfl rfl rfl trivial ?_
      | refine x_fieldAddr rfl rfl rfl rfl trivial ?_
      | refine x_skip trivial rfl rfl rfl ?_
      | refine x_indexAddr1 rfl rfl rfl (by assumption) (by omega) (by omega) rfl trivial ?_
      | refine x_indexAddr rfl rfl rfl (by assumption) (by omega) (by omega) rfl trivial ?_
      | refine x_nil ?_
      | refine cw_seq ?_
      | refine nw_seq ?_
      | refine nw_block ?_
      | refine cw_block ?_
      | refine cw_skip ?_
      | refine cw_region ?_
      | refine cw_exit rfl ?_
      | refine cw_true rfl ?_
      | refine cw_false rfl ?_)
    refine cw_ret2 rfl rfl rfl ⟨hk03, o, rfl, ?_⟩
    show Ps H3 o (mrg op policy la lb)
    rw [ho2]
    exact hP.ps
  rw [decide_eq_true g]
  repeat (first
    | refine x_move rfl rfl rfl trivial ?_
    | refine x_assign rfl rfl rfl trivial ?_
    | refine x_add rfl rfl rfl (wrap_i64 (by omega) (by omega)) rfl trivial ?_
    | refine x_sub_ rfl rfl rfl (wrap_i64 (by omega) (by omega)) rfl trivial ?_
    | refine x_mul rfl rfl rfl (wrap_i64 (by omega) (by omega)) rfl trivial ?_
    | refine x_ibin rfl rfl rfl rfl rfl trivial ?_
    | refine x_neg_ rfl rfl (wrap_i64 (by omega) (by omega)) rfl trivial ?_
    | refine x_len rfl rfl (by assumption) rfl trivial ?_
    | refine x_pick_t rfl rfl rfl rfl trivial ?_
    | refine x_pick_f rfl rfl rfl rfl trivial ?_
    | refine x_not rfl rfl rfl trivial ?_
    | refine x_beq rfl rfl rfl rfl trivial ?_
    | refine x_bne rfl rfl rfl rfl trivial ?_
    | refine x_extract rfl rfl rfl rfl trivial ?_
    | refine x_nilCheck rfl rfl rfl trivial ?_
    | refine x_fieldAddr rfl rfl rfl rfl trivial ?_
    | refine x_skip trivial rfl rfl rfl ?_
    | refine x_indexAddr1 rfl rfl rfl (by assumption) (by omega) (by omega) rfl trivial ?_
    | refine x_indexAddr rfl rfl rfl (by assumption) (by omega) (by omega) rfl trivial ?_
    | refine x_nil ?_
    | refine cw_seq ?_
    | refine nw_seq ?_
    | refine nw_block ?_
    | refine cw_block ?_
    | refine cw_skip ?_
    | refine cw_exit rfl ?_
    | refine cw_true rfl ?_
    | refine cw_false rfl ?_)
  refine cw_cut (fun w : Bool => [(0, .int .i64 op), (1, .int .i64 policy), (2, va), (3, vb), (10, ptr H.size 0), (11, ptr H1.size 0), (12, o), (13, .int .i64 (i : Int)), (14, .int .i64 (k : Int)), (84, .bool w)]) (fun w H' => H3 = H' ∧ (w = true → i < la.length ∧ ∀ p q, la[i]? = some p → lb[k]? = some q → cmpB p.1 q.1 ≤ 0) ∧ (w = false → k < lb.length ∧ ∀ p q, la[i]? = some p → lb[k]? = some q → cmpB p.1 q.1 = 1)) ?_ ?_
  · refine cw_quiet mixed (by kernel_rfl) ?_
    repeat (first
      | refine x_move rfl rfl rfl trivial ?_
      | refine x_assign rfl rfl rfl trivial ?_
      | refine x_add rfl rfl rfl (wrap_i64 (by omega) (by omega)) rfl trivial ?_
      | refine x_sub_ rfl rfl rfl (wrap_i64 (by omega) (by omega)) rfl trivial ?_
      | refine x_mul rfl rfl rfl (wrap_i64 (by omega) (by omega)) rfl trivial ?_
      | refine x_ibin rfl rfl rfl rfl rfl trivial ?_
      | refine x_neg_ rfl rfl (wrap_i64 (by omega) (by omega)) rfl trivial ?_
      | refine x_len rfl rfl (by assumption) rfl trivial ?_
      | refine x_pick_t rfl rfl rfl rfl trivial ?_
      | refine x_pick_f rfl rfl rfl rfl trivial ?_
      | refine x_not rfl rfl rfl trivial ?_
      | refine x_beq rfl rfl rfl rfl trivial ?_
      | refine x_bne rfl rfl rfl rfl trivial ?_
      | refine x_extract rfl rfl rfl rfl trivial ?_
      | refine x_nilCheck rfl rfl rfl trivial ?_
      | refine x_fieldAddr rfl rfl rfl rfl trivial ?_
      | refine x_skip trivial rfl rfl rfl ?_
      | refine x_indexAddr1 rfl rfl rfl (by assumption) (by omega) (by omega) rfl trivial ?_
      | refine x_indexAddr rfl rfl rfl (by assumption) (by omega) (by omega) rfl trivial ?_
      | refine x_nil ?_
      | refine cw_seq ?_
      | refine nw_seq ?_
      | refine nw_block ?_
      | refine cw_block ?_
      | refine cw_skip ?_
      | refine cw_region ?_
      | refine cw_exit rfl ?_
      | refine cw_true rfl ?_
      | refine cw_false rfl ?_)
    refine x_split 64 rfl (fun g3 => ?_) (fun g3 => ?_) <;> (try simp at g3)
    · repeat (first
        | refine x_move rfl rfl rfl trivial ?_
        | refine x_assign rfl rfl rfl trivial ?_
        | refine x_add rfl rfl rfl (wrap_i64 (by omega) (by omega)) rfl trivial ?_
        | refine x_sub_ rfl rfl rfl (wrap_i64 (by omega) (by omega)) rfl trivial ?_
        | refine x_mul rfl rfl rfl (wrap_i64 (by omega) (by omega)) rfl trivial ?_
        | refine x_ibin rfl rfl rfl rfl rfl trivial ?_
        | refine x_neg_ rfl rfl (wrap_i64 (by omega) (by omega)) rfl trivial ?_
        | refine x_len rfl rfl (by assumption) rfl trivial ?_
        | refine x_pick_t rfl rfl rfl rfl trivial ?_
        | refine x_pick_f rfl rfl rfl rfl trivial ?_
        | refine x_not rfl rfl rfl trivial ?_
        | refine x_beq rfl rfl rfl rfl trivial ?_
        | refine x_bne rfl rfl rfl rfl trivial ?_
        | refine x_extract rfl rfl rfl rfl trivial ?_
        | refine x_nilCheck rfl rfl rfl trivial ?_
        | refine x_fieldAddr rfl rfl rfl rfl trivial ?_
        | refine x_skip trivial rfl rfl rfl ?_
        | refine x_indexAddr1 rfl rfl rfl (by assumption) (by omega) (by omega) rfl trivial ?_
        | refine x_indexAddr rfl rfl rfl (by assumption) (by omega) (by omega) rfl trivial ?_
        | refine x_nil ?_
        | refine cw_seq ?_
        | refine nw_seq ?_
        | refine nw_block ?_
        | refine cw_block ?_
        | refine cw_skip ?_
        | refine cw_region ?_
        | refine cw_exit rfl ?_
        | refine cw_true rfl ?_
        | refine cw_false rfl ?_)
      refine nw_meet true ⟨rfl, rfl, rfl, rfl, rfl, rfl, rfl, rfl, rfl, rfl, trivial⟩ ⟨rfl, fun _ => ⟨by omega, fun p q hp hq => ?_⟩, fun h => by cases h⟩
      have := (List.getElem?_eq_some_iff.1 hq).1
      omega
    · repeat (first
        | refine x_move rfl rfl rfl trivial ?_
        | refine x_assign rfl rfl rfl trivial ?_
        | refine x_add rfl rfl rfl (wrap_i64 (by omega) (by omega)) rfl trivial ?_
        | refine x_sub_ rfl rfl rfl (wrap_i64 (by omega) (by omega)) rfl trivial ?_
        | refine x_mul rfl rfl rfl (wrap_i64 (by omega) (by omega)) rfl trivial ?_
        | refine x_ibin rfl rfl rfl rfl rfl trivial ?_
        | refine x_neg_ rfl rfl (wrap_i64 (by omega) (by omega)) rfl trivial ?_
        | refine x_len rfl rfl (by assumption) rfl trivial ?_
        | refine x_pick_t rfl rfl rfl rfl trivial ?_
        | refine x_pick_f rfl rfl rfl rfl trivial ?_
        | refine x_not rfl rfl rfl trivial ?_
        | refine x_beq rfl rfl rfl rfl trivial ?_
        | refine x_bne rfl rfl rfl rfl trivial ?_
        | refine x_extract rfl rfl rfl rfl trivial ?_
        | refine x_nilCheck rfl rfl rfl trivial ?_
        | refine x_fieldAddr rfl rfl rfl rfl trivial ?_
        | refine x_skip trivial rfl rfl rfl ?_
        | refine x_indexAddr1 rfl rfl rfl (by assumption) (by omega) (by omega) rfl trivial ?_
        | refine x_indexAddr rfl rfl rfl (by assumption) (by omega) (by omega) rfl trivial ?_
        | refine x_nil ?_
        | refine cw_seq ?_
        | refine nw_seq ?_
        | refine nw_block ?_
        | refine cw_block ?_
        | refine cw_skip ?_
        | refine cw_region ?_
        | refine cw_exit rfl ?_
        | refine cw_true rfl ?_
        | refine cw_false rfl ?_)
      refine x_split 69 rfl (fun g4 => ?_) (fun g4 => ?_) <;> (try simp at g4)
      · obtain ⟨p, hp⟩ := getp (l := la) (j := i) (by omega)
        obtain ⟨q, hq⟩ := getp (l := lb) (j := k) (by omega)
        obtain ⟨ka, a1, a2, a3⟩ := hA3.at_ i p hp
        obtain ⟨kb, b1, b2, b3⟩ := hB3.at_ k q hq
        have h7 := cmp_eq3 p.1 q.1
        have h8 := @cmp_zero p.1 q.1
        repeat (first
          | refine x_move rfl rfl rfl trivial ?_
          | refine x_assign rfl rfl rfl trivial ?_
          | refine x_add rfl rfl rfl (wrap_i64 (by omega) (by omega)) rfl trivial ?_
          | refine x_sub_ rfl rfl rfl (wrap_i64 (by omega) (by omega)) rfl trivial ?_
          | refine x_mul rfl rfl rfl (wrap_i64 (by omega) (by omega)) rfl trivial ?_
          | refine x_ibin rfl rfl rfl rfl rfl trivial ?_
          | refine x_neg_ rfl rfl (wrap_i64 (by omega) (by omega)) rfl trivial ?_
          | refine x_len rfl rfl (by assumption) rfl trivial ?_
          | refine x_pick_t rfl rfl rfl rfl trivial ?_
          | refine x_pick_f rfl rfl rfl rfl trivial ?_
          | refine x_not rfl rfl rfl trivial ?_
          | refine x_beq rfl rfl rfl rfl trivial ?_
          | refine x_bne rfl rfl rfl rfl trivial ?_
          | refine x_extract rfl rfl rfl rfl trivial ?_
          | refine x_nilCheck rfl rfl rfl trivial ?_
          | refine x_fieldAddr rfl rfl rfl rfl trivial ?_
          | refine x_skip trivial rfl rfl rfl ?_
          | refine x_indexAddr1 rfl rfl rfl (by assumption) (by omega) (by omega) rfl trivial ?_
          | refine x_indexAddr rfl rfl rfl (by assumption) (by omega) (by omega) rfl trivial ?_
          | refine x_nil ?_
          | refine cw_seq ?_
          | refine nw_seq ?_
          | refine nw_block ?_
          | refine cw_block ?_
          | refine cw_skip ?_
          | refine cw_region ?_
          | refine cw_exit rfl ?_
          | refine cw_true rfl ?_
          | refine cw_false rfl ?_)
        refine x_load rfl rfl (hpmt (a1)) rfl trivial ?_
        refine x_tostr rfl rfl (hpmt a3) rfl trivial ?_
        repeat (first
          | refine x_move rfl rfl rfl trivial ?_
          | refine x_assign rfl rfl rfl trivial ?_
          | refine x_add rfl rfl rfl (wrap_i64 (by omega) (by omega)) rfl trivial ?_
          | refine x_sub_ rfl rfl rfl (wrap_i64 (by omega) (by omega)) rfl trivial ?_
          | refine x_mul rfl rfl rfl (wrap_i64 (by omega) (by omega)) rfl trivial ?_
          | refine x_ibin rfl rfl rfl rfl rfl trivial ?_
          | refine x_neg_ rfl rfl (wrap_i64 (by omega) (by omega)) rfl trivial ?_
          | refine x_len rfl rfl (by assumption) rfl trivial ?_
          | refine x_pick_t rfl rfl rfl rfl trivial ?_
          | refine x_pick_f rfl rfl rfl rfl trivial ?_
          | refine x_not rfl rfl rfl trivial ?_
          | refine x_beq rfl rfl rfl rfl trivial ?_
          | refine x_bne rfl rfl rfl rfl trivial ?_
          | refine x_extract rfl rfl rfl rfl trivial ?_
          | refine x_nilCheck rfl rfl rfl trivial ?_
          | refine x_fieldAddr rfl rfl rfl rfl trivial ?_
          | refine x_skip trivial rfl rfl rfl ?_
          | refine x_indexAddr1 rfl rfl rfl (by assumption) (by omega) (by omega) rfl trivial ?_
          | refine x_indexAddr rfl rfl rfl (by assumption) (by omega) (by omega) rfl trivial ?_
          | refine x_nil ?_
          | refine cw_seq ?_
          | refine nw_seq ?_
          | refine nw_block ?_
          | refine cw_block ?_
          | refine cw_skip ?_
          | refine cw_region ?_
          | refine cw_exit rfl ?_
          | refine cw_true rfl ?_
          | refine cw_false rfl ?_)
        refine x_load rfl rfl (hpmt (b1)) rfl trivial ?_
        refine x_tostr rfl rfl (hpmt b3) rfl trivial ?_
        refine x_sleq rfl rfl rfl rfl trivial ?_
        rw [str_list, str_list, less_cmp]
        repeat (first
          | refine x_move rfl rfl rfl trivial ?_
          | refine x_assign rfl rfl rfl trivial ?_
          | refine x_add rfl rfl rfl (wrap_i64 (by omega) (by omega)) rfl trivial ?_
          | refine x_sub_ rfl rfl rfl (wrap_i64 (by omega) (by omega)) rfl trivial ?_
          | refine x_mul rfl rfl rfl (wrap_i64 (by omega) (by omega)) rfl trivial ?_
          | refine x_ibin rfl rfl rfl rfl rfl trivial ?_
          | refine x_neg_ rfl rfl (wrap_i64 (by omega) (by omega)) rfl trivial ?_
          | refine x_len rfl rfl (by assumption) rfl trivial ?_
          | refine x_pick_t rfl rfl rfl rfl trivial ?_
          | refine x_pick_f rfl rfl rfl rfl trivial ?_
          | refine x_not rfl rfl rfl trivial ?_
          | refine x_beq rfl rfl rfl rfl trivial ?_
          | refine x_bne rfl rfl rfl rfl trivial ?_
          | refine x_extract rfl rfl rfl rfl trivial ?_
          | refine x_nilCheck rfl rfl rfl trivial ?_
          | refine x_fieldAddr rfl rfl rfl rfl trivial ?_
          | refine x_skip trivial rfl rfl rfl ?_
          | refine x_indexAddr1 rfl rfl rfl (by assumption) (by omega) (by omega) rfl trivial ?_
          | refine x_indexAddr rfl rfl rfl (by assumption) (by omega) (by omega) rfl trivial ?_
          | refine x_nil ?_
          | refine cw_seq ?_
          | refine nw_seq ?_
          | refine nw_block ?_
          | refine cw_block ?_
          | refine cw_skip ?_
          | refine cw_region ?_
          | refine cw_exit rfl ?_
          | refine cw_true rfl ?_
          | refine cw_false rfl ?_)
        refine nw_meet (decide (cmpB p.1 q.1 = -1) || p.1 == q.1) ⟨rfl, rfl, rfl, rfl, rfl, rfl, rfl, rfl, rfl, rfl, trivial⟩ ⟨rfl, fun hw => ⟨by omega, fun p' q' hp' hq' => ?_⟩, fun hw => ⟨by omega, fun p' q' hp' hq' => ?_⟩⟩
        · rw [hp] at hp'
          rw [hq] at hq'
          cases hp'
          cases hq'
          simp at hw
          rcases hw with hw | hw
          · omega
          · have := h8.2 hw
            omega
        · rw [hp] at hp'
          rw [hq] at hq'
          cases hp'
          cases hq'
          simp at hw
          have := mt h8.1 hw.2
          omega
      · repeat (first
          | refine x_move rfl rfl rfl trivial ?_
          | refine x_assign rfl rfl rfl trivial ?_
          | refine x_add rfl rfl rfl (wrap_i64 (by omega) (by omega)) rfl trivial ?_
          | refine x_sub_ rfl rfl rfl (wrap_i64 (by omega) (by omega)) rfl trivial ?_
          | refine x_mul rfl rfl rfl (wrap_i64 (by omega) (by omega)) rfl trivial ?_
          | refine x_ibin rfl rfl rfl rfl rfl trivial ?_
          | refine x_neg_ rfl rfl (wrap_i64 (by omega) (by omega)) rfl trivial ?_
          | refine x_len rfl rfl (by assumption) rfl trivial ?_
          | refine x_pick_t rfl rfl rfl rfl trivial ?_
          | refine x_pick_f rfl rfl rfl rfl trivial ?_
          | refine x_not rfl rfl rfl trivial ?_
          | refine x_beq rfl rfl rfl rfl trivial ?_
          | refine x_bne rfl rfl rfl rfl trivial ?_
          | refine x_extract rfl rfl rfl rfl trivial ?_
          | refine x_nilCheck rfl rfl rfl trivial ?_
          | refine x_fieldAddr rfl rfl rfl rfl trivial ?_
          | refine x_skip trivial rfl rfl rfl ?_
          | refine x_indexAddr1 rfl rfl rfl (by assumption) (by omega) (by omega) rfl trivial ?_
          | refine x_indexAddr rfl rfl rfl (by assumption) (by omega) (by omega) rfl trivial ?_
          | refine x_nil ?_
          | refine cw_seq ?_
          | refine nw_seq ?_
          | refine nw_block ?_
          | refine cw_block ?_
          | refine cw_skip ?_
          | refine cw_region ?_
          | refine cw_exit rfl ?_
          | refine cw_true rfl ?_
          | refine cw_false rfl ?_)
        refine nw_meet false ⟨rfl, rfl, rfl, rfl, rfl, rfl, rfl, rfl, rfl, rfl, trivial⟩ ⟨rfl, fun h => (by cases h), fun _ => ⟨by omega, fun p q hp hq => ?_⟩⟩
        have := (List.getElem?_eq_some_iff.1 hp).1
        omega
  · rintro w _ ⟨rfl, hw1, hw2⟩
    have hMa3 : Mp H3 H.size la := by
      obtain ⟨u, x1, x2⟩ := hMa.row
      exact ⟨u, x1.keep hkk (fun h => h), x2.keepN hkk⟩
    have hMb3 : Mp H3 H1.size lb := by
      obtain ⟨u, x1, x2⟩ := hMb.row
      exact ⟨u, x1.keep hkk (fun h => h), x2.keepN hkk⟩
    obtain ⟨qo, hqo, hoo, hdo⟩ := hP.row
    cases w with
    | true =>
      obtain ⟨g1, g2⟩ := hw1 rfl
      obtain ⟨p, hp⟩ := getp (l := la) (j := i) g1
      obtain ⟨ka, a1, a2, a3⟩ := hA3.at_ i p hp
      have hpl := hka p (List.mem_of_getElem? hp)
      have hget := getM_at (l := lb) (k := p.1) hk (fun j r hj hr => hI1 j i r p hj (Nat.le_refl _) hr hp) (fun q hq e => by
        have := g2 p q hp hq
        have := cmp_anti p.1 q.1
        omega)
      have hcel2 : Cels H3 (sb va) (so va + i * 2) [ka, .int .u64 p.2] := by
        intro j hj
        have : j = 0 ∨ j = 1 := by simp at hj; omega
        rcases this with rfl | rfl
        · exact a1
        · exact a2
      have hdp : la.drop i = p :: la.drop (i + 1) := by
        rw [List.drop_eq_getElem_cons g1]
        congr 1
        rw [List.getElem?_eq_getElem g1] at hp
        exact Option.some.inj hp
      repeat (first
        | refine x_move rfl rfl rfl trivial ?_
        | refine x_assign rfl rfl rfl trivial ?_
        | refine x_add rfl rfl rfl (wrap_i64 (by omega) (by omega)) rfl trivial ?_
        | refine x_sub_ rfl rfl rfl (wrap_i64 (by omega) (by omega)) rfl trivial ?_
        | refine x_mul rfl rfl rfl (wrap_i64 (by omega) (by omega)) rfl trivial ?_
        | refine x_ibin rfl rfl rfl rfl rfl trivial ?_
        | refine x_neg_ rfl rfl (wrap_i64 (by omega) (by omega)) rfl trivial ?_
        | refine x_len rfl rfl (by assumption) rfl trivial ?_
        | refine x_pick_t rfl rfl rfl rfl trivial ?_
        | refine x_pick_f rfl rfl rfl rfl trivial ?_
        | refine x_not rfl rfl rfl trivial ?_
        | refine x_beq rfl rfl rfl rfl trivial ?_
        | refine x_bne rfl rfl rfl rfl trivial ?_
        | refine x_extract rfl rfl rfl rfl trivial ?_
        | refine x_nilCheck rfl rfl rfl trivial ?_
        | refine x_fieldAddr rfl rfl rfl rfl trivial ?_
        | refine x_skip trivial rfl rfl rfl ?_
        | refine x_indexAddr1 rfl rfl rfl (by assumption) (by omega) (by omega) rfl trivial ?_
        | refine x_indexAddr rfl rfl rfl (by assumption) (by omega) (by omega) rfl trivial ?_
        | refine x_nil ?_
        | refine cw_seq ?_
        | refine nw_seq ?_
        | refine nw_block ?_
        | refine cw_block ?_
        | refine cw_skip ?_
        | refine cw_region ?_
        | refine cw_exit rfl ?_
        | refine cw_true rfl ?_
        | refine cw_false rfl ?_)
      refine x_load rfl rfl (hpmt (a1)) rfl trivial ?_
      refine x_call rfl rfl rfl trivial (ref_Get hMb3 a3) ?_
      rintro _ _ ⟨rfl, rfl⟩
      refine ⟨trivial, ?_⟩
      repeat (first
        | refine x_move rfl rfl rfl trivial ?_
        | refine x_assign rfl rfl rfl trivial ?_
        | refine x_add rfl rfl rfl (wrap_i64 (by omega) (by omega)) rfl trivial ?_
        | refine x_sub_ rfl rfl rfl (wrap_i64 (by omega) (by omega)) rfl trivial ?_
        | refine x_mul rfl rfl rfl (wrap_i64 (by omega) (by omega)) rfl trivial ?_
        | refine x_ibin rfl rfl rfl rfl rfl trivial ?_
        | refine x_neg_ rfl rfl (wrap_i64 (by omega) (by omega)) rfl trivial ?_
        | refine x_len rfl rfl (by assumption) rfl trivial ?_
        | refine x_pick_t rfl rfl rfl rfl trivial ?_
        | refine x_pick_f rfl rfl rfl rfl trivial ?_
        | refine x_not rfl rfl rfl trivial ?_
        | refine x_beq rfl rfl rfl rfl trivial ?_
        | refine x_bne rfl rfl rfl rfl trivial ?_
        | refine x_extract rfl rfl rfl rfl trivial ?_
        | refine x_nilCheck rfl rfl rfl trivial ?_
        | refine x_fieldAddr rfl rfl rfl rfl trivial ?_
        | refine x_skip trivial rfl rfl rfl ?_
        | refine x_indexAddr1 rfl rfl rfl (by assumption) (by omega) (by omega) rfl trivial ?_
        | refine x_indexAddr rfl rfl rfl (by assumption) (by omega) (by omega) rfl trivial ?_
        | refine x_nil ?_
        | refine cw_seq ?_
        | refine nw_seq ?_
        | refine nw_block ?_
        | refine cw_block ?_
        | refine cw_skip ?_
        | refine cw_region ?_
        | refine cw_exit rfl ?_
        | refine cw_true rfl ?_
        | refine cw_false rfl ?_)
      refine x_loads rfl rfl rfl (hpmt hcel2) rfl trivial ?_
      refine x_call rfl rfl rfl trivial (ref_Pair a3 hpl) ?_
      rintro _ H4 ⟨hk4, c, rfl, hown, hfc⟩
      refine ⟨trivial, ?_⟩
      refine x_alloc rfl rfl trivial ?_
      intro H5 hn5
      refine ⟨trivial, ?_⟩
      refine x_stores rfl rfl rfl rfl (two_oneC' (isSl_oneC hown.sl)) hn5.blk (by simp) trivial ?_
      intro H6 hB6 hk6 hs6
      refine ⟨trivial, ?_⟩
      have hk5 := hn5.old hk4
      have hk36 : Keep Non H3 H6 := keep_at hk5 hk6 hk4.size
      have hown6 : Own 1 H6 c p.1.length (bvs p.1) := (hown.keep hn5.keep (fun _ h => h)).keep hk6 (fun hc e => by
        have := hown.lt hc
        omega)
      have hB6' : Blk H6 H4.size [c, .int .u64 p.2] := hB6
      repeat (first
        | refine x_move rfl rfl rfl trivial ?_
        | refine x_assign rfl rfl rfl trivial ?_
        | refine x_add rfl rfl rfl (wrap_i64 (by omega) (by omega)) rfl trivial ?_
        | refine x_sub_ rfl rfl rfl (wrap_i64 (by omega) (by omega)) rfl trivial ?_
        | refine x_mul rfl rfl rfl (wrap_i64 (by omega) (by omega)) rfl trivial ?_
        | refine x_ibin rfl rfl rfl rfl rfl trivial ?_
        | refine x_neg_ rfl rfl (wrap_i64 (by omega) (by omega)) rfl trivial ?_
        | refine x_len rfl rfl (by assumption) rfl trivial ?_
        | refine x_pick_t rfl rfl rfl rfl trivial ?_
        | refine x_pick_f rfl rfl rfl rfl trivial ?_
        | refine x_not rfl rfl rfl trivial ?_
        | refine x_beq rfl rfl rfl rfl trivial ?_
        | refine x_bne rfl rfl rfl rfl trivial ?_
        | refine x_extract rfl rfl rfl rfl trivial ?_
        | refine x_nilCheck rfl rfl rfl trivial ?_
        | refine x_fieldAddr rfl rfl rfl rfl trivial ?_
        | refine x_skip trivial rfl rfl rfl ?_
        | refine x_indexAddr1 rfl rfl rfl (by assumption) (by omega) (by omega) rfl trivial ?_
        | refine x_indexAddr rfl rfl rfl (by assumption) (by omega) (by omega) rfl trivial ?_
        | refine x_nil ?_
        | refine cw_seq ?_
        | refine nw_seq ?_
        | refine nw_block ?_
        | refine cw_block ?_
        | refine cw_skip ?_
        | refine cw_region ?_
        | refine cw_exit rfl ?_
        | refine cw_true rfl ?_
        | refine cw_false rfl ?_)
      by_cases hb : ∃ q, lb[k]? = some q ∧ q.1 = p.1
      · obtain ⟨q, hq, hqp⟩ := hb
        have hg : getM lb p.1 = some q.2 := by rw [hget, hq]; simp [hqp]
        have hkl := (List.getElem?_eq_some_iff.1 hq).1
        have hdq : lb.drop k = q :: lb.drop (k + 1) := by
          rw [List.drop_eq_getElem_cons hkl]
          congr 1
          rw [List.getElem?_eq_getElem hkl] at hq
          exact Option.some.inj hq
        have hz : cmpB p.1 q.1 = 0 := cmp_zero.2 hqp.symm
        rw [hdp, hdq, mrg_both op policy p q _ _ hz] at hout
        have a7 : cel H6 H4.size 1 = some (.int .u64 p.2) := by rw [hB6'.cel]; rfl
        rw [hg]
        repeat (first
          | refine x_move rfl rfl rfl trivial ?_
          | refine x_assign rfl rfl rfl trivial ?_
          | refine x_add rfl rfl rfl (wrap_i64 (by omega) (by omega)) rfl trivial ?_
          | refine x_sub_ rfl rfl rfl (wrap_i64 (by omega) (by omega)) rfl trivial ?_
          | refine x_mul rfl rfl rfl (wrap_i64 (by omega) (by omega)) rfl trivial ?_
          | refine x_ibin rfl rfl rfl rfl rfl trivial ?_
          | refine x_neg_ rfl rfl (wrap_i64 (by omega) (by omega)) rfl trivial ?_
          | refine x_len rfl rfl (by assumption) rfl trivial ?_
          | refine x_pick_t rfl rfl rfl rfl trivial ?_
          | refine x_pick_f rfl rfl rfl rfl trivial ?_
          | refine x_not rfl rfl rfl trivial ?_
          | refine x_beq rfl rfl rfl rfl trivial ?_
          | refine x_bne rfl rfl rfl rfl trivial ?_
          | refine x_extract rfl rfl rfl rfl trivial ?_
          | refine x_nilCheck rfl rfl rfl trivial ?_
          | refine x_fieldAddr rfl rfl rfl rfl trivial ?_
          | refine x_skip trivial rfl rfl rfl ?_
          | refine x_indexAddr1 rfl rfl rfl (by assumption) (by omega) (by omega) rfl trivial ?_
          | refine x_indexAddr rfl rfl rfl (by assumption) (by omega) (by omega) rfl trivial ?_
          | refine x_nil ?_
          | refine cw_seq ?_
          | refine nw_seq ?_
          | refine nw_block ?_
          | refine cw_block ?_
          | refine cw_skip ?_
          | refine cw_region ?_
          | refine cw_exit rfl ?_
          | refine cw_true rfl ?_
          | refine cw_false rfl ?_)
        refine x_load rfl rfl (hpmt (a7)) rfl trivial ?_
        repeat (first
          | refine x_move rfl rfl rfl trivial ?_
          | refine x_assign rfl rfl rfl trivial ?_
          | refine x_add rfl rfl rfl (wrap_i64 (by omega) (by omega)) rfl trivial ?_
          | refine x_sub_ rfl rfl rfl (wrap_i64 (by omega) (by omega)) rfl trivial ?_
          | refine x_mul rfl rfl rfl (wrap_i64 (by omega) (by omega)) rfl trivial ?_
          | refine x_ibin rfl rfl rfl rfl rfl trivial ?_
          | refine x_neg_ rfl rfl (wrap_i64 (by omega) (by omega)) rfl trivial ?_
          | refine x_len rfl rfl (by assumption) rfl trivial ?_
          | refine x_pick_t rfl rfl rfl rfl trivial ?_
          | refine x_pick_f rfl rfl rfl rfl trivial ?_
          | refine x_not rfl rfl rfl trivial ?_
          | refine x_beq rfl rfl rfl rfl trivial ?_
          | refine x_bne rfl rfl rfl rfl trivial ?_
          | refine x_extract rfl rfl rfl rfl trivial ?_
          | refine x_nilCheck rfl rfl rfl trivial ?_
          | refine x_fieldAddr rfl rfl rfl rfl trivial ?_
          | refine x_skip trivial rfl rfl rfl ?_
          | refine x_indexAddr1 rfl rfl rfl (by assumption) (by omega) (by omega) rfl trivial ?_
          | refine x_indexAddr rfl rfl rfl (by assumption) (by omega) (by omega) rfl trivial ?_
          | refine x_nil ?_
          | refine cw_seq ?_
          | refine nw_seq ?_
          | refine nw_block ?_
          | refine cw_block ?_
          | refine cw_skip ?_
          | refine cw_region ?_
          | refine cw_exit rfl ?_
          | refine cw_true rfl ?_
          | refine cw_false rfl ?_)
        refine x_call rfl rfl rfl trivial (ref_Value policy p.2 q.2 H6) ?_
        rintro _ _ ⟨rfl, rfl⟩
        refine ⟨trivial, ?_⟩
        repeat (first
          | refine x_move rfl rfl rfl trivial ?_
          | refine x_assign rfl rfl rfl trivial ?_
          | refine x_add rfl rfl rfl (wrap_i64 (by omega) (by omega)) rfl trivial ?_
          | refine x_sub_ rfl rfl rfl (wrap_i64 (by omega) (by omega)) rfl trivial ?_
          | refine x_mul rfl rfl rfl (wrap_i64 (by omega) (by omega)) rfl trivial ?_
          | refine x_ibin rfl rfl rfl rfl rfl trivial ?_
          | refine x_neg_ rfl rfl (wrap_i64 (by omega) (by omega)) rfl trivial ?_
          | refine x_len rfl rfl (by assumption) rfl trivial ?_
          | refine x_pick_t rfl rfl rfl rfl trivial ?_
          | refine x_pick_f rfl rfl rfl rfl trivial ?_
          | refine x_not rfl rfl rfl trivial ?_
          | refine x_beq rfl rfl rfl rfl trivial ?_
          | refine x_bne rfl rfl rfl rfl trivial ?_
          | refine x_extract rfl rfl rfl rfl trivial ?_
          | refine x_nilCheck rfl rfl rfl trivial ?_
          | refine x_fieldAddr rfl rfl rfl rfl trivial ?_
          | refine x_skip trivial rfl rfl rfl ?_
          | refine x_indexAddr1 rfl rfl rfl (by assumption) (by omega) (by omega) rfl trivial ?_
          | refine x_indexAddr rfl rfl rfl (by assumption) (by omega) (by omega) rfl trivial ?_
          | refine x_nil ?_
          | refine cw_seq ?_
          | refine nw_seq ?_
          | refine nw_block ?_
          | refine cw_block ?_
          | refine cw_skip ?_
          | refine cw_region ?_
          | refine cw_exit rfl ?_
          | refine cw_true rfl ?_
          | refine cw_false rfl ?_)
        refine x_store rfl rfl rfl rfl hB6' (by simp) trivial ?_
        intro H7 hB7 hk7 hs7
        refine ⟨trivial, ?_⟩
        have hB7' : Blk H7 H4.size [c, .int .u64 (mval policy p.2 q.2)] := hB7
        have hk37 : Keep Non H3 H7 := keep_at hk36 hk7 hk4.size
        have hown7 : Own 1 H7 c p.1.length (bvs p.1) := hown6.keep hk7 (fun hc e => by
          have := hown.lt hc
          omega)
        have hI1' : ∀ (j i' : Nat) (p' q' : Pr), j < k + 1 → i + 1 ≤ i' → lb[j]? = some p' → la[i']? = some q' → cmpB p'.1 q'.1 = -1 := by
          intro j i' p' q' hj hi' hp' hq'
          by_cases hjk : j = k
          · subst hjk
            rw [hq] at hp'
            cases hp'
            rw [hqp]
            exact rises_lt h5 hi' hp hq'
          · exact hI1 j i' p' q' (by omega) (by omega) hp' hq'
        have hI2' : ∀ (j i' : Nat) (p' q' : Pr), j < i + 1 → k + 1 ≤ i' → la[j]? = some p' → lb[i']? = some q' → cmpB p'.1 q'.1 = -1 := by
          intro j i' p' q' hj hi' hp' hq'
          by_cases hji : j = i
          · subst hji
            rw [hp] at hp'
            cases hp'
            rw [← hqp]
            exact rises_lt h6 hi' hq hq'
          · exact hI2 j i' p' q' (by omega) (by omega) hp' hq'
        repeat (first
          | refine x_move rfl rfl rfl trivial ?_
          | refine x_assign rfl rfl rfl trivial ?_
          | refine x_add rfl rfl rfl (wrap_i64 (by omega) (by omega)) rfl trivial ?_
          | refine x_sub_ rfl rfl rfl (wrap_i64 (by omega) (by omega)) rfl trivial ?_
          | refine x_mul rfl rfl rfl (wrap_i64 (by omega) (by omega)) rfl trivial ?_
          | refine x_ibin rfl rfl rfl rfl rfl trivial ?_
          | refine x_neg_ rfl rfl (wrap_i64 (by omega) (by omega)) rfl trivial ?_
          | refine x_len rfl rfl (by assumption) rfl trivial ?_
          | refine x_pick_t rfl rfl rfl rfl trivial ?_
          | refine x_pick_f rfl rfl rfl rfl trivial ?_
          | refine x_not rfl rfl rfl trivial ?_
          | refine x_beq rfl rfl rfl rfl trivial ?_
          | refine x_bne rfl rfl rfl rfl trivial ?_
          | refine x_extract rfl rfl rfl rfl trivial ?_
          | refine x_nilCheck rfl rfl rfl trivial ?_
          | refine x_fieldAddr rfl rfl rfl rfl trivial ?_
          | refine x_skip trivial rfl rfl rfl ?_
          | refine x_indexAddr1 rfl rfl rfl (by assumption) (by omega) (by omega) rfl trivial ?_
          | refine x_indexAddr rfl rfl rfl (by assumption) (by omega) (by omega) rfl trivial ?_
          | refine x_nil ?_
          | refine cw_seq ?_
          | refine nw_seq ?_
          | refine nw_block ?_
          | refine cw_block ?_
          | refine cw_skip ?_
          | refine cw_region ?_
          | refine cw_exit rfl ?_
          | refine cw_true rfl ?_
          | refine cw_false rfl ?_)
        have a8 := hB7'.cels 0 2 (by simp)
        have hlo : out.length ≤ 200000 := by omega
        refine x_split 111 rfl (fun h8 => ?_) (fun h8 => ?_) <;> (try simp at h8)
        · repeat (first
            | refine x_move rfl rfl rfl trivial ?_
            | refine x_assign rfl rfl rfl trivial ?_
            | refine x_add rfl rfl rfl (wrap_i64 (by omega) (by omega)) rfl trivial ?_
            | refine x_sub_ rfl rfl rfl (wrap_i64 (by omega) (by omega)) rfl trivial ?_
            | refine x_mul rfl rfl rfl (wrap_i64 (by omega) (by omega)) rfl trivial ?_
            | refine x_ibin rfl rfl rfl rfl rfl trivial ?_
            | refine x_neg_ rfl rfl (wrap_i64 (by omega) (by omega)) rfl trivial ?_
            | refine x_len rfl rfl (by assumption) rfl trivial ?_
            | refine x_pick_t rfl rfl rfl rfl trivial ?_
            | refine x_pick_f rfl rfl rfl rfl trivial ?_
            | refine x_not rfl rfl rfl trivial ?_
            | refine x_beq rfl rfl rfl rfl trivial ?_
            | refine x_bne rfl rfl rfl rfl trivial ?_
            | refine x_extract rfl rfl rfl rfl trivial ?_
            | refine x_nilCheck rfl rfl rfl trivial ?_
            | refine x_fieldAddr rfl rfl rfl rfl trivial ?_
            | refine x_skip trivial rfl rfl rfl ?_
            | refine x_indexAddr1 rfl rfl rfl (by assumption) (by omega) (by omega) rfl trivial ?_
            | refine x_indexAddr rfl rfl rfl (by assumption) (by omega) (by omega) rfl trivial ?_
            | refine x_nil ?_
            | refine cw_seq ?_
            | refine nw_seq ?_
            | refine nw_block ?_
            | refine cw_block ?_
            | refine cw_skip ?_
            | refine cw_region ?_
            | refine cw_exit rfl ?_
            | refine cw_true rfl ?_
            | refine cw_false rfl ?_)
          refine x_loads rfl rfl rfl (hpmt a8) rfl trivial ?_
          refine x_buildSliceS1 (by rfl) rfl rfl (by omega) (by rfl) rfl trivial ?_
          intro H8 hn8
          refine ⟨trivial, ?_⟩
          have hk38 := hn8.old (hk37)
          refine x_append (v := o) (by rfl) (by rfl) (by rfl) rfl rfl rfl (hoo.keep hk38 (fun _ h => h)) (isSl_some (Nat.le_refl _) (by omega)) (m := 1) (cx := [c, .int .u64 (mval policy p.2 q.2)]) rfl (hn8.blk.cels 0 2 (by simp)) (two_oneC' (isSl_oneC hown.sl)) (by omega) rfl trivial ?_
          intro o' H9 hap
          refine ⟨trivial, ?_⟩
          have hP9 : Po H2.size H9 o' (out ++ [(p.1, mval policy p.2 q.2)]) := Po.snoc (p := (p.1, mval policy p.2 q.2)) hP.fresh hqo hoo hdo hkk.size hk38 ((hown7).keep hn8.keep (fun _ h => h)) hfc hap
          have hk9 : Keep Non H2 H9 := (hkk.non_trans hk38).old hap.keep (fun b hb e => by have := hP.fresh (by omega); have := e.1; omega)
          repeat (first
            | refine x_move rfl rfl rfl trivial ?_
            | refine x_assign rfl rfl rfl trivial ?_
            | refine x_add rfl rfl rfl (wrap_i64 (by omega) (by omega)) rfl trivial ?_
            | refine x_sub_ rfl rfl rfl (wrap_i64 (by omega) (by omega)) rfl trivial ?_
            | refine x_mul rfl rfl rfl (wrap_i64 (by omega) (by omega)) rfl trivial ?_
            | refine x_ibin rfl rfl rfl rfl rfl trivial ?_
            | refine x_neg_ rfl rfl (wrap_i64 (by omega) (by omega)) rfl trivial ?_
            | refine x_len rfl rfl (by assumption) rfl trivial ?_
            | refine x_pick_t rfl rfl rfl rfl trivial ?_
            | refine x_pick_f rfl rfl rfl rfl trivial ?_
            | refine x_not rfl rfl rfl trivial ?_
            | refine x_beq rfl rfl rfl rfl trivial ?_
            | refine x_bne rfl rfl rfl rfl trivial ?_
            | refine x_extract rfl rfl rfl rfl trivial ?_
            | refine x_nilCheck rfl rfl rfl trivial ?_
            | refine x_fieldAddr rfl rfl rfl rfl trivial ?_
            | refine x_skip trivial rfl rfl rfl ?_
            | refine x_indexAddr1 rfl rfl rfl (by assumption) (by omega) (by omega) rfl trivial ?_
            | refine x_indexAddr rfl rfl rfl (by assumption) (by omega) (by omega) rfl trivial ?_
            | refine x_nil ?_
            | refine cw_seq ?_
            | refine nw_seq ?_
            | refine nw_block ?_
            | refine cw_block ?_
            | refine cw_skip ?_
            | refine cw_region ?_
            | refine cw_exit rfl ?_
            | refine cw_true rfl ?_
            | refine cw_false rfl ?_)
          refine nw_round (i + 1, k + 1, o', out ++ [(p.1, mval policy p.2 q.2)]) ⟨rfl, rfl, rfl, rfl, rfl, rfl, rfl, rfl, rfl, trivial⟩ ⟨by show i + 1 ≤ _; omega, by show (k + 1) ≤ lb.length; omega, hI1', hI2', by show (out ++ [_]).length ≤ i + 1 + (k + 1); rw [List.length_append]; simp only [List.length_cons, List.length_nil]; omega, ?_, hk9, hP9⟩ (by show la.length - (i + 1) + (lb.length - (k + 1)) < la.length - i + (lb.length - k); omega)
          rw [← hout]
          have : ¬ op = 3 := by omega
          simp [this]
        · repeat (first
            | refine x_move rfl rfl rfl trivial ?_
            | refine x_assign rfl rfl rfl trivial ?_
            | refine x_add rfl rfl rfl (wrap_i64 (by omega) (by omega)) rfl trivial ?_
            | refine x_sub_ rfl rfl rfl (wrap_i64 (by omega) (by omega)) rfl trivial ?_
            | refine x_mul rfl rfl rfl (wrap_i64 (by omega) (by omega)) rfl trivial ?_
            | refine x_ibin rfl rfl rfl rfl rfl trivial ?_
            | refine x_neg_ rfl rfl (wrap_i64 (by omega) (by omega)) rfl trivial ?_
            | refine x_len rfl rfl (by assumption) rfl trivial ?_
            | refine x_pick_t rfl rfl rfl rfl trivial ?_
            | refine x_pick_f rfl rfl rfl rfl trivial ?_
            | refine x_not rfl rfl rfl trivial ?_
            | refine x_beq rfl rfl rfl rfl trivial ?_
            | refine x_bne rfl rfl rfl rfl trivial ?_
            | refine x_extract rfl rfl rfl rfl trivial ?_
            | refine x_nilCheck rfl rfl rfl trivial ?_
            | refine x_fieldAddr rfl rfl rfl rfl trivial ?_
            | refine x_skip trivial rfl rfl rfl ?_
            | refine x_indexAddr1 rfl rfl rfl (by assumption) (by omega) (by omega) rfl trivial ?_
            | refine x_indexAddr rfl rfl rfl (by assumption) (by omega) (by omega) rfl trivial ?_
            | refine x_nil ?_
            | refine cw_seq ?_
            | refine nw_seq ?_
            | refine nw_block ?_
            | refine cw_block ?_
            | refine cw_skip ?_
            | refine cw_region ?_
            | refine cw_exit rfl ?_
            | refine cw_true rfl ?_
            | refine cw_false rfl ?_)
          refine cw_cond rfl (fun h9 => ?_) (fun h9 => ?_) <;> (try simp at h9)
          · repeat (first
              | refine x_move rfl rfl rfl trivial ?_
              | refine x_assign rfl rfl rfl trivial ?_
              | refine x_add rfl rfl rfl (wrap_i64 (by omega) (by omega)) rfl trivial ?_
              | refine x_sub_ rfl rfl rfl (wrap_i64 (by omega) (by omega)) rfl trivial ?_
              | refine x_mul rfl rfl rfl (wrap_i64 (by omega) (by omega)) rfl trivial ?_
              | refine x_ibin rfl rfl rfl rfl rfl trivial ?_
              | refine x_neg_ rfl rfl (wrap_i64 (by omega) (by omega)) rfl trivial ?_
              | refine x_len rfl rfl (by assumption) rfl trivial ?_
              | refine x_pick_t rfl rfl rfl rfl trivial ?_
              | refine x_pick_f rfl rfl rfl rfl trivial ?_
              | refine x_not rfl rfl rfl trivial ?_
              | refine x_beq rfl rfl rfl rfl trivial ?_
              | refine x_bne rfl rfl rfl rfl trivial ?_
              | refine x_extract rfl rfl rfl rfl trivial ?_
              | refine x_nilCheck rfl rfl rfl trivial ?_
              | refine x_fieldAddr rfl rfl rfl rfl trivial ?_
              | refine x_skip trivial rfl rfl rfl ?_
              | refine x_indexAddr1 rfl rfl rfl (by assumption) (by omega) (by omega) rfl trivial ?_
              | refine x_indexAddr rfl rfl rfl (by assumption) (by omega) (by omega) rfl trivial ?_
              | refine x_nil ?_
              | refine cw_seq ?_
              | refine nw_seq ?_
              | refine nw_block ?_
              | refine cw_block ?_
              | refine cw_skip ?_
              | refine cw_region ?_
              | refine cw_exit rfl ?_
              | refine cw_true rfl ?_
              | refine cw_false rfl ?_)
            refine x_loads rfl rfl rfl (hpmt a8) rfl trivial ?_
            refine x_buildSliceS1 (by rfl) rfl rfl (by omega) (by rfl) rfl trivial ?_
            intro H8 hn8
            refine ⟨trivial, ?_⟩
            have hk38 := hn8.old (hk37)
            refine x_append (v := o) (by rfl) (by rfl) (by rfl) rfl rfl rfl (hoo.keep hk38 (fun _ h => h)) (isSl_some (Nat.le_refl _) (by omega)) (m := 1) (cx := [c, .int .u64 (mval policy p.2 q.2)]) rfl (hn8.blk.cels 0 2 (by simp)) (two_oneC' (isSl_oneC hown.sl)) (by omega) rfl trivial ?_
            intro o' H9 hap
            refine ⟨trivial, ?_⟩
            have hP9 : Po H2.size H9 o' (out ++ [(p.1, mval policy p.2 q.2)]) := Po.snoc (p := (p.1, mval policy p.2 q.2)) hP.fresh hqo hoo hdo hkk.size hk38 ((hown7).keep hn8.keep (fun _ h => h)) hfc hap
            have hk9 : Keep Non H2 H9 := (hkk.non_trans hk38).old hap.keep (fun b hb e => by have := hP.fresh (by omega); have := e.1; omega)
            repeat (first
              | refine x_move rfl rfl rfl trivial ?_
              | refine x_assign rfl rfl rfl trivial ?_
              | refine x_add rfl rfl rfl (wrap_i64 (by omega) (by omega)) rfl trivial ?_
              | refine x_sub_ rfl rfl rfl (wrap_i64 (by omega) (by omega)) rfl trivial ?_
              | refine x_mul rfl rfl rfl (wrap_i64 (by omega) (by omega)) rfl trivial ?_
              | refine x_ibin rfl rfl rfl rfl rfl trivial ?_
              | refine x_neg_ rfl rfl (wrap_i64 (by omega) (by omega)) rfl trivial ?_
              | refine x_len rfl rfl (by assumption) rfl trivial ?_
              | refine x_pick_t rfl rfl rfl rfl trivial ?_
              | refine x_pick_f rfl rfl rfl rfl trivial ?_
              | refine x_not rfl rfl rfl trivial ?_
              | refine x_beq rfl rfl rfl rfl trivial ?_
              | refine x_bne rfl rfl rfl rfl trivial ?_
              | refine x_extract rfl rfl rfl rfl trivial ?_
              | refine x_nilCheck rfl rfl rfl trivial ?_
              | refine x_fieldAddr rfl rfl rfl rfl trivial ?_
              | refine x_skip trivial rfl rfl rfl ?_
              | refine x_indexAddr1 rfl rfl rfl (by assumption) (by omega) (by omega) rfl trivial ?_
              | refine x_indexAddr rfl rfl rfl (by assumption) (by omega) (by omega) rfl trivial ?_
              | refine x_nil ?_
              | refine cw_seq ?_
              | refine nw_seq ?_
              | refine nw_block ?_
              | refine cw_block ?_
              | refine cw_skip ?_
              | refine cw_region ?_
              | refine cw_exit rfl ?_
              | refine cw_true rfl ?_
              | refine cw_false rfl ?_)
            refine nw_round (i + 1, k + 1, o', out ++ [(p.1, mval policy p.2 q.2)]) ⟨rfl, rfl, rfl, rfl, rfl, rfl, rfl, rfl, rfl, trivial⟩ ⟨by show i + 1 ≤ _; omega, by show (k + 1) ≤ lb.length; omega, hI1', hI2', by show (out ++ [_]).length ≤ i + 1 + (k + 1); rw [List.length_append]; simp only [List.length_cons, List.length_nil]; omega, ?_, hk9, hP9⟩ (by show la.length - (i + 1) + (lb.length - (k + 1)) < la.length - i + (lb.length - k); omega)
            rw [← hout]
            have : ¬ op = 3 := by omega
            simp [this]
          · repeat (first
              | refine x_move rfl rfl rfl trivial ?_
              | refine x_assign rfl rfl rfl trivial ?_
              | refine x_add rfl rfl rfl (wrap_i64 (by omega) (by omega)) rfl trivial ?_
              | refine x_sub_ rfl rfl rfl (wrap_i64 (by omega) (by omega)) rfl trivial ?_
              | refine x_mul rfl rfl rfl (wrap_i64 (by omega) (by omega)) rfl trivial ?_
              | refine x_ibin rfl rfl rfl rfl rfl trivial ?_
              | refine x_neg_ rfl rfl (wrap_i64 (by omega) (by omega)) rfl trivial ?_
              | refine x_len rfl rfl (by assumption) rfl trivial ?_
              | refine x_pick_t rfl rfl rfl rfl trivial ?_
              | refine x_pick_f rfl rfl rfl rfl trivial ?_
              | refine x_not rfl rfl rfl trivial ?_
              | refine x_beq rfl rfl rfl rfl trivial ?_
              | refine x_bne rfl rfl rfl rfl trivial ?_
              | refine x_extract rfl rfl rfl rfl trivial ?_
              | refine x_nilCheck rfl rfl rfl trivial ?_
              | refine x_fieldAddr rfl rfl rfl rfl trivial ?_
              | refine x_skip trivial rfl rfl rfl ?_
              | refine x_indexAddr1 rfl rfl rfl (by assumption) (by omega) (by omega) rfl trivial ?_
              | refine x_indexAddr rfl rfl rfl (by assumption) (by omega) (by omega) rfl trivial ?_
              | refine x_nil ?_
              | refine cw_seq ?_
              | refine nw_seq ?_
              | refine nw_block ?_
              | refine cw_block ?_
              | refine cw_skip ?_
              | refine cw_region ?_
              | refine cw_exit rfl ?_
              | refine cw_true rfl ?_
              | refine cw_false rfl ?_)
            refine nw_round (i + 1, k + 1, o, out) ⟨rfl, rfl, rfl, rfl, rfl, rfl, rfl, rfl, rfl, trivial⟩ ⟨by show i + 1 ≤ _; omega, by show (k + 1) ≤ lb.length; omega, hI1', hI2', by show out.length ≤ i + 1 + (k + 1); omega, ?_, hkk.non_trans hk37, hP.keepN hk37⟩ (by show la.length - (i + 1) + (lb.length - (k + 1)) < la.length - i + (lb.length - k); omega)
            rw [← hout]
            have : op = 3 := by omega
            simp [this]
      · have hg : getM lb p.1 = none := by
          rw [hget]
          cases hq : lb[k]? with
          | none => rfl
          | some q => simp; intro e; exact hb ⟨q, hq, e⟩
        rw [hg]
        have hI1' : ∀ (j i' : Nat) (p' q' : Pr), j < k → i + 1 ≤ i' → lb[j]? = some p' → la[i']? = some q' → cmpB p'.1 q'.1 = -1 := fun j i' p' q' hj hi' hp' hq' => hI1 j i' p' q' hj (by omega) hp' hq'
        have hlt : ∀ q, lb[k]? = some q → cmpB p.1 q.1 = -1 := by
          intro q hq
          have h1 := g2 p q hp hq
          rcases cmp_eq3 p.1 q.1 with h | h | h
          · exact h
          · exact absurd ⟨q, hq, (cmp_zero.1 h).symm⟩ hb
          · omega
        have hI2' : ∀ (j i' : Nat) (p' q' : Pr), j < i + 1 → k ≤ i' → la[j]? = some p' → lb[i']? = some q' → cmpB p'.1 q'.1 = -1 := by
          intro j i' p' q' hj hi' hp' hq'
          by_cases hji : j = i
          · subst hji
            rw [hp] at hp'
            cases hp'
            by_cases hik : i' = k
            · subst hik
              exact hlt q' hq'
            · have hlk := (List.getElem?_eq_some_iff.1 hq').1
              obtain ⟨q, hq⟩ := getp (l := lb) (j := k) (by omega)
              exact cmp_lt_trans (hlt q hq) (rises_lt h6 (by omega) hq hq')
          · exact hI2 j i' p' q' (by omega) hi' hp' hq'
        have hcase : lb.drop k = [] ∨ ∃ q c, lb.drop k = q :: c ∧ cmpB p.1 q.1 = -1 := by
          by_cases hkl : k < lb.length
          · right
            refine ⟨lb[k], lb.drop (k + 1), List.drop_eq_getElem_cons hkl, hlt _ (List.getElem?_eq_getElem hkl)⟩
          · left
            exact List.drop_eq_nil_of_le (by omega)
        rw [hdp, mrg_left op policy p _ _ hcase] at hout
        repeat (first
          | refine x_move rfl rfl rfl trivial ?_
          | refine x_assign rfl rfl rfl trivial ?_
          | refine x_add rfl rfl rfl (wrap_i64 (by omega) (by omega)) rfl trivial ?_
          | refine x_sub_ rfl rfl rfl (wrap_i64 (by omega) (by omega)) rfl trivial ?_
          | refine x_mul rfl rfl rfl (wrap_i64 (by omega) (by omega)) rfl trivial ?_
          | refine x_ibin rfl rfl rfl rfl rfl trivial ?_
          | refine x_neg_ rfl rfl (wrap_i64 (by omega) (by omega)) rfl trivial ?_
          | refine x_len rfl rfl (by assumption) rfl trivial ?_
          | refine x_pick_t rfl rfl rfl rfl trivial ?_
          | refine x_pick_f rfl rfl rfl rfl trivial ?_
          | refine x_not rfl rfl rfl trivial ?_
          | refine x_beq rfl rfl rfl rfl trivial ?_
          | refine x_bne rfl rfl rfl rfl trivial ?_
          | refine x_extract rfl rfl rfl rfl trivial ?_
          | refine x_nilCheck rfl rfl rfl trivial ?_
          | refine x_fieldAddr rfl rfl rfl rfl trivial ?_
          | refine x_skip trivial rfl rfl rfl ?_
          | refine x_indexAddr1 rfl rfl rfl (by assumption) (by omega) (by omega) rfl trivial ?_
          | refine x_indexAddr rfl rfl rfl (by assumption) (by omega) (by omega) rfl trivial ?_
          | refine x_nil ?_
          | refine cw_seq ?_
          | refine nw_seq ?_
          | refine nw_block ?_
          | refine cw_block ?_
          | refine cw_skip ?_
          | refine cw_region ?_
          | refine cw_exit rfl ?_
          | refine cw_true rfl ?_
          | refine cw_false rfl ?_)
        have a8 := hB6'.cels 0 2 (by simp)
        have hlo : out.length ≤ 200000 := by omega
        refine x_split 111 rfl (fun h8 => ?_) (fun h8 => ?_) <;> (try simp at h8)
        · repeat (first
            | refine x_move rfl rfl rfl trivial ?_
            | refine x_assign rfl rfl rfl trivial ?_
            | refine x_add rfl rfl rfl (wrap_i64 (by omega) (by omega)) rfl trivial ?_
            | refine x_sub_ rfl rfl rfl (wrap_i64 (by omega) (by omega)) rfl trivial ?_
            | refine x_mul rfl rfl rfl (wrap_i64 (by omega) (by omega)) rfl trivial ?_
            | refine x_ibin rfl rfl rfl rfl rfl trivial ?_
            | refine x_neg_ rfl rfl (wrap_i64 (by omega) (by omega)) rfl trivial ?_
            | refine x_len rfl rfl (by assumption) rfl trivial ?_
            | refine x_pick_t rfl rfl rfl rfl trivial ?_
            | refine x_pick_f rfl rfl rfl rfl trivial ?_
            | refine x_not rfl rfl rfl trivial ?_
            | refine x_beq rfl rfl rfl rfl trivial ?_
            | refine x_bne rfl rfl rfl rfl trivial ?_
            | refine x_extract rfl rfl rfl rfl trivial ?_
            | refine x_nilCheck rfl rfl rfl trivial ?_
            | refine x_fieldAddr rfl rfl rfl rfl trivial ?_
            | refine x_skip trivial rfl rfl rfl ?_
            | refine x_indexAddr1 rfl rfl rfl (by assumption) (by omega) (by omega) rfl trivial ?_
            | refine x_indexAddr rfl rfl rfl (by assumption) (by omega) (by omega) rfl trivial ?_
            | refine x_nil ?_
            | refine cw_seq ?_
            | refine nw_seq ?_
            | refine nw_block ?_
            | refine cw_block ?_
            | refine cw_skip ?_
            | refine cw_region ?_
            | refine cw_exit rfl ?_
            | refine cw_true rfl ?_
            | refine cw_false rfl ?_)
          refine x_loads rfl rfl rfl (hpmt a8) rfl trivial ?_
          refine x_buildSliceS1 (by rfl) rfl rfl (by omega) (by rfl) rfl trivial ?_
          intro H8 hn8
          refine ⟨trivial, ?_⟩
          have hk38 := hn8.old (hk36)
          refine x_append (v := o) (by rfl) (by rfl) (by rfl) rfl rfl rfl (hoo.keep hk38 (fun _ h => h)) (isSl_some (Nat.le_refl _) (by omega)) (m := 1) (cx := [c, .int .u64 (p.2)]) rfl (hn8.blk.cels 0 2 (by simp)) (two_oneC' (isSl_oneC hown.sl)) (by omega) rfl trivial ?_
          intro o' H9 hap
          refine ⟨trivial, ?_⟩
          have hP9 : Po H2.size H9 o' (out ++ [(p.1, p.2)]) := Po.snoc (p := (p.1, p.2)) hP.fresh hqo hoo hdo hkk.size hk38 ((hown6).keep hn8.keep (fun _ h => h)) hfc hap
          have hk9 : Keep Non H2 H9 := (hkk.non_trans hk38).old hap.keep (fun b hb e => by have := hP.fresh (by omega); have := e.1; omega)
          repeat (first
            | refine x_move rfl rfl rfl trivial ?_
            | refine x_assign rfl rfl rfl trivial ?_
            | refine x_add rfl rfl rfl (wrap_i64 (by omega) (by omega)) rfl trivial ?_
            | refine x_sub_ rfl rfl rfl (wrap_i64 (by omega) (by omega)) rfl trivial ?_
            | refine x_mul rfl rfl rfl (wrap_i64 (by omega) (by omega)) rfl trivial ?_
            | refine x_ibin rfl rfl rfl rfl rfl trivial ?_
            | refine x_neg_ rfl rfl (wrap_i64 (by omega) (by omega)) rfl trivial ?_
            | refine x_len rfl rfl (by assumption) rfl trivial ?_
            | refine x_pick_t rfl rfl rfl rfl trivial ?_
            | refine x_pick_f rfl rfl rfl rfl trivial ?_
            | refine x_not rfl rfl rfl trivial ?_
            | refine x_beq rfl rfl rfl rfl trivial ?_
            | refine x_bne rfl rfl rfl rfl trivial ?_
            | refine x_extract rfl rfl rfl rfl trivial ?_
            | refine x_nilCheck rfl rfl rfl trivial ?_
            | refine x_fieldAddr rfl rfl rfl rfl trivial ?_
            | refine x_skip trivial rfl rfl rfl ?_
            | refine x_indexAddr1 rfl rfl rfl (by assumption) (by omega) (by omega) rfl trivial ?_
            | refine x_indexAddr rfl rfl rfl (by assumption) (by omega) (by omega) rfl trivial ?_
            | refine x_nil ?_
            | refine cw_seq ?_
            | refine nw_seq ?_
            | refine nw_block ?_
            | refine cw_block ?_
            | refine cw_skip ?_
            | refine cw_region ?_
            | refine cw_exit rfl ?_
            | refine cw_true rfl ?_
            | refine cw_false rfl ?_)
          refine nw_round (i + 1, k, o', out ++ [(p.1, p.2)]) ⟨rfl, rfl, rfl, rfl, rfl, rfl, rfl, rfl, rfl, trivial⟩ ⟨by show i + 1 ≤ _; omega, by show (k) ≤ lb.length; omega, hI1', hI2', by show (out ++ [_]).length ≤ i + 1 + (k); rw [List.length_append]; simp only [List.length_cons, List.length_nil]; omega, ?_, hk9, hP9⟩ (by show la.length - (i + 1) + (lb.length - (k)) < la.length - i + (lb.length - k); omega)
          rw [← hout]
          have : ¬ op = 2 := by omega
          simp [this]
        · repeat (first
            | refine x_move rfl rfl rfl trivial ?_
            | refine x_assign rfl rfl rfl trivial ?_
            | refine x_add rfl rfl rfl (wrap_i64 (by omega) (by omega)) rfl trivial ?_
            | refine x_sub_ rfl rfl rfl (wrap_i64 (by omega) (by omega)) rfl trivial ?_
            | refine x_mul rfl rfl rfl (wrap_i64 (by omega) (by omega)) rfl trivial ?_
            | refine x_ibin rfl rfl rfl rfl rfl trivial ?_
            | refine x_neg_ rfl rfl (wrap_i64 (by omega) (by omega)) rfl trivial ?_
            | refine x_len rfl rfl (by assumption) rfl trivial ?_
            | refine x_pick_t rfl rfl rfl rfl trivial ?_
            | refine x_pick_f rfl rfl rfl rfl trivial ?_
            | refine x_not rfl rfl rfl trivial ?_
            | refine x_beq rfl rfl rfl rfl trivial ?_
            | refine x_bne rfl rfl rfl rfl trivial ?_
            | refine x_extract rfl rfl rfl rfl trivial ?_
            | refine x_nilCheck rfl rfl rfl trivial ?_
            | refine x_fieldAddr rfl rfl rfl rfl trivial ?_
            | refine x_skip trivial rfl rfl rfl ?_
            | refine x_indexAddr1 rfl rfl rfl (by assumption) (by omega) (by omega) rfl trivial ?_
            | refine x_indexAddr rfl rfl rfl (by assumption) (by omega) (by omega) rfl trivial ?_
            | refine x_nil ?_
            | refine cw_seq ?_
            | refine nw_seq ?_
            | refine nw_block ?_
            | refine cw_block ?_
            | refine cw_skip ?_
            | refine cw_region ?_
            | refine cw_exit rfl ?_
            | refine cw_true rfl ?_
            | refine cw_false rfl ?_)
          refine cw_cond rfl (fun h9 => ?_) (fun h9 => ?_) <;> (try simp at h9)
          · repeat (first
              | refine x_move rfl rfl rfl trivial ?_
              | refine x_assign rfl rfl rfl trivial ?_
              | refine x_add rfl rfl rfl (wrap_i64 (by omega) (by omega)) rfl trivial ?_
              | refine x_sub_ rfl rfl rfl (wrap_i64 (by omega) (by omega)) rfl trivial ?_
              | refine x_mul rfl rfl rfl (wrap_i64 (by omega) (by omega)) rfl trivial ?_
              | refine x_ibin rfl rfl rfl rfl rfl trivial ?_
              | refine x_neg_ rfl rfl (wrap_i64 (by omega) (by omega)) rfl trivial ?_
              | refine x_len rfl rfl (by assumption) rfl trivial ?_
              | refine x_pick_t rfl rfl rfl rfl trivial ?_
              | refine x_pick_f rfl rfl rfl rfl trivial ?_
              | refine x_not rfl rfl rfl trivial ?_
              | refine x_beq rfl rfl rfl rfl trivial ?_
              | refine x_bne rfl rfl rfl rfl trivial ?_
              | refine x_extract rfl rfl rfl rfl trivial ?_
              | refine x_nilCheck rfl rfl rfl trivial ?_
              | refine x_fieldAddr rfl rfl rfl rfl trivial ?_
              | refine x_skip trivial rfl rfl rfl ?_
              | refine x_indexAddr1 rfl rfl rfl (by assumption) (by omega) (by omega) rfl trivial ?_
              | refine x_indexAddr rfl rfl rfl (by assumption) (by omega) (by omega) rfl trivial ?_
              | refine x_nil ?_
              | refine cw_seq ?_
              | refine nw_seq ?_
              | refine nw_block ?_
              | refine cw_block ?_
              | refine cw_skip ?_
              | refine cw_region ?_
              | refine cw_exit rfl ?_
              | refine cw_true rfl ?_
              | refine cw_false rfl ?_)
            refine x_loads rfl rfl rfl (hpmt a8) rfl trivial ?_
            refine x_buildSliceS1 (by rfl) rfl rfl (by omega) (by rfl) rfl trivial ?_
            intro H8 hn8
            refine ⟨trivial, ?_⟩
            have hk38 := hn8.old (hk36)
            refine x_append (v := o) (by rfl) (by rfl) (by rfl) rfl rfl rfl (hoo.keep hk38 (fun _ h => h)) (isSl_some (Nat.le_refl _) (by omega)) (m := 1) (cx := [c, .int .u64 (p.2)]) rfl (hn8.blk.cels 0 2 (by simp)) (two_oneC' (isSl_oneC hown.sl)) (by omega) rfl trivial ?_
            intro o' H9 hap
            refine ⟨trivial, ?_⟩
            have hP9 : Po H2.size H9 o' (out ++ [(p.1, p.2)]) := Po.snoc (p := (p.1, p.2)) hP.fresh hqo hoo hdo hkk.size hk38 ((hown6).keep hn8.keep (fun _ h => h)) hfc hap
            have hk9 : Keep Non H2 H9 := (hkk.non_trans hk38).old hap.keep (fun b hb e => by have := hP.fresh (by omega); have := e.1; omega)
            repeat (first
              | refine x_move rfl rfl rfl trivial ?_
              | refine x_assign rfl rfl rfl trivial ?_
              | refine x_add rfl rfl rfl (wrap_i64 (by omega) (by omega)) rfl trivial ?_
              | refine x_sub_ rfl rfl rfl (wrap_i64 (by omega) (by omega)) rfl trivial ?_
              | refine x_mul rfl rfl rfl (wrap_i64 (by omega) (by omega)) rfl trivial ?_
              | refine x_ibin rfl rfl rfl rfl rfl trivial ?_
              | refine x_neg_ rfl rfl (wrap_i64 (by omega) (by omega)) rfl trivial ?_
              | refine x_len rfl rfl (by assumption) rfl trivial ?_
              | refine x_pick_t rfl rfl rfl rfl trivial ?_
              | refine x_pick_f rfl rfl rfl rfl trivial ?_
              | refine x_not rfl rfl rfl trivial ?_
              | refine x_beq rfl rfl rfl rfl trivial ?_
              | refine x_bne rfl rfl rfl rfl trivial ?_
              | refine x_extract rfl rfl rfl rfl trivial ?_
              | refine x_nilCheck rfl rfl rfl trivial ?_
              | refine x_fieldAddr rfl rfl rfl rfl trivial ?_
              | refine x_skip trivial rfl rfl rfl ?_
              | refine x_indexAddr1 rfl rfl rfl (by assumption) (by omega) (by omega) rfl trivial ?_
              | refine x_indexAddr rfl rfl rfl (by assumption) (by omega) (by omega) rfl trivial ?_
              | refine x_nil ?_
              | refine cw_seq ?_
              | refine nw_seq ?_
              | refine nw_block ?_
              | refine cw_block ?_
              | refine cw_skip ?_
              | refine cw_region ?_
              | refine cw_exit rfl ?_
              | refine cw_true rfl ?_
              | refine cw_false rfl ?_)
            refine nw_round (i + 1, k, o', out ++ [(p.1, p.2)]) ⟨rfl, rfl, rfl, rfl, rfl, rfl, rfl, rfl, rfl, trivial⟩ ⟨by show i + 1 ≤ _; omega, by show (k) ≤ lb.length; omega, hI1', hI2', by show (out ++ [_]).length ≤ i + 1 + (k); rw [List.length_append]; simp only [List.length_cons, List.length_nil]; omega, ?_, hk9, hP9⟩ (by show la.length - (i + 1) + (lb.length - (k)) < la.length - i + (lb.length - k); omega)
            rw [← hout]
            have : ¬ op = 2 := by omega
            simp [this]
          · repeat (first
              | refine x_move rfl rfl rfl trivial ?_
              | refine x_assign rfl rfl rfl trivial ?_
              | refine x_add rfl rfl rfl (wrap_i64 (by omega) (by omega)) rfl trivial ?_
              | refine x_sub_ rfl rfl rfl (wrap_i64 (by omega) (by omega)) rfl trivial ?_
              | refine x_mul rfl rfl rfl (wrap_i64 (by omega) (by omega)) rfl trivial ?_
              | refine x_ibin rfl rfl rfl rfl rfl trivial ?_
              | refine x_neg_ rfl rfl (wrap_i64 (by omega) (by omega)) rfl trivial ?_
              | refine x_len rfl rfl (by assumption) rfl trivial ?_
              | refine x_pick_t rfl rfl rfl rfl trivial ?_
              | refine x_pick_f rfl rfl rfl rfl trivial ?_
              | refine x_not rfl rfl rfl trivial ?_
              | refine x_beq rfl rfl rfl rfl trivial ?_
              | refine x_bne rfl rfl rfl rfl trivial ?_
              | refine x_extract rfl rfl rfl rfl trivial ?_
              | refine x_nilCheck rfl rfl rfl trivial ?_
              | refine x_fieldAddr rfl rfl rfl rfl trivial ?_
              | refine x_skip trivial rfl rfl rfl ?_
              | refine x_indexAddr1 rfl rfl rfl (by assumption) (by omega) (by omega) rfl trivial ?_
              | refine x_indexAddr rfl rfl rfl (by assumption) (by omega) (by omega) rfl trivial ?_
              | refine x_nil ?_
              | refine cw_seq ?_
              | refine nw_seq ?_
              | refine nw_block ?_
              | refine cw_block ?_
              | refine cw_skip ?_
              | refine cw_region ?_
              | refine cw_exit rfl ?_
              | refine cw_true rfl ?_
              | refine cw_false rfl ?_)
            refine nw_round (i + 1, k, o, out) ⟨rfl, rfl, rfl, rfl, rfl, rfl, rfl, rfl, rfl, trivial⟩ ⟨by show i + 1 ≤ _; omega, by show (k) ≤ lb.length; omega, hI1', hI2', by show out.length ≤ i + 1 + (k); omega, ?_, hkk.non_trans hk36, hP.keepN hk36⟩ (by show la.length - (i + 1) + (lb.length - (k)) < la.length - i + (lb.length - k); omega)
            rw [← hout]
            have : op = 2 := by omega
            simp [this]
    | false =>
      obtain ⟨g1, g2⟩ := hw2 rfl
      obtain ⟨q, hq⟩ := getp (l := lb) (j := k) g1
      obtain ⟨kb, b1, b2, b3⟩ := hB3.at_ k q hq
      have hpl := hkb q (List.mem_of_getElem? hq)
      have hget : getM la q.1 = none := by
        rw [getM_at (l := la) (k := q.1) hi (fun j r hj hr => hI2 j k r q hj (Nat.le_refl _) hr hq) (fun p hp e => by have := g2 p q hp hq; omega)]
        cases hp : la[i]? with
        | none => rfl
        | some p =>
          have h1 := g2 p q hp hq
          have : ¬ p.1 = q.1 := by intro e; rw [e, cmp_self] at h1; omega
          simp [this]
      have hdq : lb.drop k = q :: lb.drop (k + 1) := by
        rw [List.drop_eq_getElem_cons g1]
        congr 1
        rw [List.getElem?_eq_getElem g1] at hq
        exact Option.some.inj hq
      have hcase : la.drop i = [] ∨ ∃ p c, la.drop i = p :: c ∧ cmpB p.1 q.1 = 1 := by
        by_cases hil : i < la.length
        · right
          refine ⟨la[i], la.drop (i + 1), List.drop_eq_getElem_cons hil, g2 _ q (List.getElem?_eq_getElem hil) hq⟩
        · left
          exact List.drop_eq_nil_of_le (by omega)
      rw [hdq, mrg_right op policy q _ _ hcase] at hout
      have hI1' : ∀ (j i' : Nat) (p' q' : Pr), j < k + 1 → i ≤ i' → lb[j]? = some p' → la[i']? = some q' → cmpB p'.1 q'.1 = -1 := by
        intro j i' p' q' hj hi' hp' hq'
        by_cases hjk : j = k
        · subst hjk
          rw [hq] at hp'
          cases hp'
          have hli := (List.getElem?_eq_some_iff.1 hq').1
          obtain ⟨p, hp⟩ := getp (l := la) (j := i) (by omega)
          have h1 := g2 p q hp hq
          have h2 := cmp_anti p.1 q.1
          by_cases hii : i' = i
          · subst hii
            rw [hp] at hq'
            cases hq'
            omega
          · exact cmp_lt_trans (by omega) (rises_lt h5 (show i < i' by omega) hp hq')
        · exact hI1 j i' p' q' (by omega) hi' hp' hq'
      have hI2' : ∀ (j i' : Nat) (p' q' : Pr), j < i → k + 1 ≤ i' → la[j]? = some p' → lb[i']? = some q' → cmpB p'.1 q'.1 = -1 := fun j i' p' q' hj hi' hp' hq' => hI2 j i' p' q' hj (by omega) hp' hq'
      have hcel2 : Cels H3 (sb vb) (so vb + k * 2) [kb, .int .u64 q.2] := by
        intro j hj
        have : j = 0 ∨ j = 1 := by simp at hj; omega
        rcases this with rfl | rfl
        · exact b1
        · exact b2
      have hlo : out.length ≤ 200000 := by omega
      repeat (first
        | refine x_move rfl rfl rfl trivial ?_
        | refine x_assign rfl rfl rfl trivial ?_
        | refine x_add rfl rfl rfl (wrap_i64 (by omega) (by omega)) rfl trivial ?_
        | refine x_sub_ rfl rfl rfl (wrap_i64 (by omega) (by omega)) rfl trivial ?_
        | refine x_mul rfl rfl rfl (wrap_i64 (by omega) (by omega)) rfl trivial ?_
        | refine x_ibin rfl rfl rfl rfl rfl trivial ?_
        | refine x_neg_ rfl rfl (wrap_i64 (by omega) (by omega)) rfl trivial ?_
        | refine x_len rfl rfl (by assumption) rfl trivial ?_
        | refine x_pick_t rfl rfl rfl rfl trivial ?_
        | refine x_pick_f rfl rfl rfl rfl trivial ?_
        | refine x_not rfl rfl rfl trivial ?_
        | refine x_beq rfl rfl rfl rfl trivial ?_
        | refine x_bne rfl rfl rfl rfl trivial ?_
        | refine x_extract rfl rfl rfl rfl trivial ?_
        | refine x_nilCheck rfl rfl rfl trivial ?_
        | refine x_fieldAddr rfl rfl rfl rfl trivial ?_
        | refine x_skip trivial rfl rfl rfl ?_
        | refine x_indexAddr1 rfl rfl rfl (by assumption) (by omega) (by omega) rfl trivial ?_
        | refine x_indexAddr rfl rfl rfl (by assumption) (by omega) (by omega) rfl trivial ?_
        | refine x_nil ?_
        | refine cw_seq ?_
        | refine nw_seq ?_
        | refine nw_block ?_
        | refine cw_block ?_
        | refine cw_skip ?_
        | refine cw_region ?_
        | refine cw_exit rfl ?_
        | refine cw_true rfl ?_
        | refine cw_false rfl ?_)
      refine x_load rfl rfl (hpmt (b1)) rfl trivial ?_
      refine x_call rfl rfl rfl trivial (ref_Get hMa3 b3) ?_
      rintro _ _ ⟨rfl, rfl⟩
      refine ⟨trivial, ?_⟩
      rw [hget]
      repeat (first
        | refine x_move rfl rfl rfl trivial ?_
        | refine x_assign rfl rfl rfl trivial ?_
        | refine x_add rfl rfl rfl (wrap_i64 (by omega) (by omega)) rfl trivial ?_
        | refine x_sub_ rfl rfl rfl (wrap_i64 (by omega) (by omega)) rfl trivial ?_
        | refine x_mul rfl rfl rfl (wrap_i64 (by omega) (by omega)) rfl trivial ?_
        | refine x_ibin rfl rfl rfl rfl rfl trivial ?_
        | refine x_neg_ rfl rfl (wrap_i64 (by omega) (by omega)) rfl trivial ?_
        | refine x_len rfl rfl (by assumption) rfl trivial ?_
        | refine x_pick_t rfl rfl rfl rfl trivial ?_
        | refine x_pick_f rfl rfl rfl rfl trivial ?_
        | refine x_not rfl rfl rfl trivial ?_
        | refine x_beq rfl rfl rfl rfl trivial ?_
        | refine x_bne rfl rfl rfl rfl trivial ?_
        | refine x_extract rfl rfl rfl rfl trivial ?_
        | refine x_nilCheck rfl rfl rfl trivial ?_
        | refine x_fieldAddr rfl rfl rfl rfl trivial ?_
        | refine x_skip trivial rfl rfl rfl ?_
        | refine x_indexAddr1 rfl rfl rfl (by assumption) (by omega) (by omega) rfl trivial ?_
        | refine x_indexAddr rfl rfl rfl (by assumption) (by omega) (by omega) rfl trivial ?_
        | refine x_nil ?_
        | refine cw_seq ?_
        | refine nw_seq ?_
        | refine nw_block ?_
        | refine cw_block ?_
        | refine cw_skip ?_
        | refine cw_region ?_
        | refine cw_exit rfl ?_
        | refine cw_true rfl ?_
        | refine cw_false rfl ?_)
      refine x_split 135 rfl (fun h8 => ?_) (fun h8 => ?_) <;> (try simp at h8)
      · repeat (first
          | refine x_move rfl rfl rfl trivial ?_
          | refine x_assign rfl rfl rfl trivial ?_
          | refine x_add rfl rfl rfl (wrap_i64 (by omega) (by omega)) rfl trivial ?_
          | refine x_sub_ rfl rfl rfl (wrap_i64 (by omega) (by omega)) rfl trivial ?_
          | refine x_mul rfl rfl rfl (wrap_i64 (by omega) (by omega)) rfl trivial ?_
          | refine x_ibin rfl rfl rfl rfl rfl trivial ?_
          | refine x_neg_ rfl rfl (wrap_i64 (by omega) (by omega)) rfl trivial ?_
          | refine x_len rfl rfl (by assumption) rfl trivial ?_
          | refine x_pick_t rfl rfl rfl rfl trivial ?_
          | refine x_pick_f rfl rfl rfl rfl trivial ?_
          | refine x_not rfl rfl rfl trivial ?_
          | refine x_beq rfl rfl rfl rfl trivial ?_
          | refine x_bne rfl rfl rfl rfl trivial ?_
          | refine x_extract rfl rfl rfl rfl trivial ?_
          | refine x_nilCheck rfl rfl rfl trivial ?_
          | refine x_fieldAddr rfl rfl rfl rfl trivial ?_
          | refine x_skip trivial rfl rfl rfl ?_
          | refine x_indexAddr1 rfl rfl rfl (by assumption) (by omega) (by omega) rfl trivial ?_
          | refine x_indexAddr rfl rfl rfl (by assumption) (by omega) (by omega) rfl trivial ?_
          | refine x_nil ?_
          | refine cw_seq ?_
          | refine nw_seq ?_
          | refine nw_block ?_
          | refine cw_block ?_
          | refine cw_skip ?_
          | refine cw_region ?_
          | refine cw_exit rfl ?_
          | refine cw_true rfl ?_
          | refine cw_false rfl ?_)
        refine x_loads rfl rfl rfl (hpmt hcel2) rfl trivial ?_
        refine x_call rfl rfl rfl trivial (ref_Pair b3 hpl) ?_
        rintro _ H4 ⟨hk4, c, rfl, hown, hfc⟩
        refine ⟨trivial, ?_⟩
        refine x_buildSliceS1 (c := [c, .int .u64 q.2]) (by rfl) rfl rfl (by omega) (by rfl) rfl trivial ?_
        intro H8 hn8
        refine ⟨trivial, ?_⟩
        have hk38 := hn8.old hk4
        refine x_append (v := o) (by rfl) (by rfl) (by rfl) rfl rfl rfl (hoo.keep hk38 (fun _ h => h)) (isSl_some (Nat.le_refl _) (by omega)) (m := 1) (cx := [c, .int .u64 q.2]) rfl (hn8.blk.cels 0 2 (by simp)) (two_oneC' (isSl_oneC hown.sl)) (by omega) rfl trivial ?_
        intro o' H9 hap
        refine ⟨trivial, ?_⟩
        have hP9 : Po H2.size H9 o' (out ++ [q]) := Po.snoc (p := q) hP.fresh hqo hoo hdo hkk.size hk38 (hown.keep hn8.keep (fun _ h => h)) hfc hap
        have hk9 : Keep Non H2 H9 := (hkk.non_trans hk38).old hap.keep (fun b hb e => by have := hP.fresh (by omega); have := e.1; omega)
        repeat (first
          | refine x_move rfl rfl rfl trivial ?_
          | refine x_assign rfl rfl rfl trivial ?_
          | refine x_add rfl rfl rfl (wrap_i64 (by omega) (by omega)) rfl trivial ?_
          | refine x_sub_ rfl rfl rfl (wrap_i64 (by omega) (by omega)) rfl trivial ?_
          | refine x_mul rfl rfl rfl (wrap_i64 (by omega) (by omega)) rfl trivial ?_
          | refine x_ibin rfl rfl rfl rfl rfl trivial ?_
          | refine x_neg_ rfl rfl (wrap_i64 (by omega) (by omega)) rfl trivial ?_
          | refine x_len rfl rfl (by assumption) rfl trivial ?_
          | refine x_pick_t rfl rfl rfl rfl trivial ?_
          | refine x_pick_f rfl rfl rfl rfl trivial ?_
          | refine x_not rfl rfl rfl trivial ?_
          | refine x_beq rfl rfl rfl rfl trivial ?_
          | refine x_bne rfl rfl rfl rfl trivial ?_
          | refine x_extract rfl rfl rfl rfl trivial ?_
          | refine x_nilCheck rfl rfl rfl trivial ?_
          | refine x_fieldAddr rfl rfl rfl rfl trivial ?_
          | refine x_skip trivial rfl rfl rfl ?_
          | refine x_indexAddr1 rfl rfl rfl (by assumption) (by omega) (by omega) rfl trivial ?_
          | refine x_indexAddr rfl rfl rfl (by assumption) (by omega) (by omega) rfl trivial ?_
          | refine x_nil ?_
          | refine cw_seq ?_
          | refine nw_seq ?_
          | refine nw_block ?_
          | refine cw_block ?_
          | refine cw_skip ?_
          | refine cw_region ?_
          | refine cw_exit rfl ?_
          | refine cw_true rfl ?_
          | refine cw_false rfl ?_)
        refine nw_round (i, k + 1, o', out ++ [q]) ⟨rfl, rfl, rfl, rfl, rfl, rfl, rfl, rfl, rfl, trivial⟩ ⟨hi, by show k + 1 ≤ lb.length; omega, hI1', hI2', by show (out ++ [q]).length ≤ i + (k + 1); rw [List.length_append]; simp only [List.length_cons, List.length_nil]; omega, ?_, hk9, hP9⟩ (by show la.length - i + (lb.length - (k + 1)) < la.length - i + (lb.length - k); omega)
        rw [← hout]
        simp [h8]
      · repeat (first
          | refine x_move rfl rfl rfl trivial ?_
          | refine x_assign rfl rfl rfl trivial ?_
          | refine x_add rfl rfl rfl (wrap_i64 (by omega) (by omega)) rfl trivial ?_
          | refine x_sub_ rfl rfl rfl (wrap_i64 (by omega) (by omega)) rfl trivial ?_
          | refine x_mul rfl rfl rfl (wrap_i64 (by omega) (by omega)) rfl trivial ?_
          | refine x_ibin rfl rfl rfl rfl rfl trivial ?_
          | refine x_neg_ rfl rfl (wrap_i64 (by omega) (by omega)) rfl trivial ?_
          | refine x_len rfl rfl (by assumption) rfl trivial ?_
          | refine x_pick_t rfl rfl rfl rfl trivial ?_
          | refine x_pick_f rfl rfl rfl rfl trivial ?_
          | refine x_not rfl rfl rfl trivial ?_
          | refine x_beq rfl rfl rfl rfl trivial ?_
          | refine x_bne rfl rfl rfl rfl trivial ?_
          | refine x_extract rfl rfl rfl rfl trivial ?_
          | refine x_nilCheck rfl rfl rfl trivial ?_
          | refine x_fieldAddr rfl rfl rfl rfl trivial ?_
          | refine x_skip trivial rfl rfl rfl ?_
          | refine x_indexAddr1 rfl rfl rfl (by assumption) (by omega) (by omega) rfl trivial ?_
          | refine x_indexAddr rfl rfl rfl (by assumption) (by omega) (by omega) rfl trivial ?_
          | refine x_nil ?_
          | refine cw_seq ?_
          | refine nw_seq ?_
          | refine nw_block ?_
          | refine cw_block ?_
          | refine cw_skip ?_
          | refine cw_region ?_
          | refine cw_exit rfl ?_
          | refine cw_true rfl ?_
          | refine cw_false rfl ?_)
        refine nw_round (i, k + 1, o, out) ⟨rfl, rfl, rfl, rfl, rfl, rfl, rfl, rfl, rfl, trivial⟩ ⟨hi, by show k + 1 ≤ lb.length; omega, hI1', hI2', by show out.length ≤ i + (k + 1); omega, ?_, hkk, hP⟩ (by show la.length - i + (lb.length - (k + 1)) < la.length - i + (lb.length - k); omega)
        rw [← hout]
        simp [h8]
end Go.Proofs.Ytghdmamchbecjaa.X
