/- The package arena: what its functions answer. -/
import Derived.Test.YtioaicleodjmpaaArena
namespace Go.Proofs.Ytioaicleodjmpaa.X
open Go Go.Proofs
set_option linter.unusedVariables false
set_option maxRecDepth 10000
set_option maxHeartbeats 2000000

def Sa (K : Role) (H : Heap) (b : Nat) (a : Ar) : Prop := ∃ vc vb, Ma K H b vc vb [.int .i64 a.most, vc, vb] a.cs a.back
theorem Sa.keep {K : Role} {S : Nat → Prop} {H H' : Heap} {b : Nat} {a : Ar} (h : Sa K H b a) (k : Keep S H H') (hS : ∀ b, K b ≠ 0 → ¬ S b) : Sa K H' b a := let ⟨vc, vb, h1⟩ := h; ⟨vc, vb, h1.keep k hS⟩
theorem Sa.keepN {K : Role} {H H' : Heap} {b : Nat} {a : Ar} (h : Sa K H b a) (k : Keep Non H H') : Sa K H' b a := h.keep k (fun _ _ h => h)
theorem Sa.kin {K : Role} {H : Heap} {b : Nat} {a : Ar} (h : Sa K H b a) : K.In H := let ⟨_, _, h1⟩ := h; h1.kin
abbrev MutA (K : Role) : Nat → Prop := fun c => K c ≠ 0

theorem slices_CloneW {va : Value} {la : List Int} {H : Heap} (hA : Ws H va la) (hla : la.length ≤ 1000000) : Ret Try.prog 28 [va] H (fun v H' => Keep Non H H' ∧ Own 1 H' v la.length (u64s la) ∧ Fresh H v) := by
  have sA := hA.1
  have cA := sA.cap
  refine ret_of Try.func28 rfl rfl rfl rfl ?_
  intro w0
  repeat (first
    | refine x_move rfl rfl rfl trivial ?_
    | refine x_assign rfl rfl rfl trivial ?_
    | refine x_add rfl rfl rfl (wrap_i64 (by omega) (by omega)) rfl trivial ?_
    | refine x_sub_ rfl rfl rfl (wrap_i64 (by omega) (by omega)) rfl trivial ?_
    | refine x_sub_ rfl rfl rfl (wrap_u32 (by omega) (by omega)) rfl trivial ?_
    | refine x_add rfl rfl rfl (wrap_u32 (by omega) (by omega)) rfl trivial ?_
    | refine x_peqn rfl rfl rfl rfl trivial ?_
    | refine x_pnen rfl rfl rfl rfl trivial ?_
    | refine x_mul rfl rfl rfl (wrap_i64 (by omega) (by omega)) rfl trivial ?_
    | refine x_ibin rfl rfl rfl rfl rfl trivial ?_
    | refine x_neg_ rfl rfl (wrap_i64 (by omega) (by omega)) rfl trivial ?_
    | refine x_len rfl rfl (by assumption) rfl trivial ?_
    | refine x_pick_t rfl rfl rfl rfl trivial ?_
    | refine x_pick_f rfl rfl rfl rfl trivial ?_
    | refine x_not rfl rfl rfl trivial ?_
    | refine x_beq rfl rfl rfl rfl trivial ?_
    | refine x_bne rfl rfl rfl rfl trivial ?_
    | refine x_extract rfl rfl rfl rfl trivial ?_
    | refine x_nilCheck rfl rfl rfl trivial ?_
    | refine x_fieldAddr rfl rfl rfl rfl trivial ?_
    | refine x_skip trivial rfl rfl rfl ?_
    | refine x_indexAddr1 rfl rfl rfl (by assumption) (by omega) (by omega) rfl trivial ?_
    | refine x_indexAddr rfl rfl rfl (by assumption) (by omega) (by omega) rfl trivial ?_
    | refine x_nil ?_
    | refine cw_seq ?_
    | refine nw_seq ?_
    | refine nw_block ?_
    | refine cw_block ?_
    | refine cw_skip ?_
    | refine cw_region ?_
    | refine cw_exit rfl ?_
    | refine cw_true rfl ?_
    | refine cw_false rfl ?_)
  refine x_sleqn rfl rfl rfl (by assumption) rfl trivial ?_
  repeat (first
    | refine x_move rfl rfl rfl trivial ?_
    | refine x_assign rfl rfl rfl trivial ?_
    | refine x_add rfl rfl rfl (wrap_i64 (by omega) (by omega)) rfl trivial ?_
    | refine x_sub_ rfl rfl rfl (wrap_i64 (by omega) (by omega)) rfl trivial ?_
    | refine x_sub_ rfl rfl rfl (wrap_u32 (by omega) (by omega)) rfl trivial ?_
    | refine x_add rfl rfl rfl (wrap_u32 (by omega) (by omega)) rfl trivial ?_
    | refine x_peqn rfl rfl rfl rfl trivial ?_
    | refine x_pnen rfl rfl rfl rfl trivial ?_
    | refine x_mul rfl rfl rfl (wrap_i64 (by omega) (by omega)) rfl trivial ?_
    | refine x_ibin rfl rfl rfl rfl rfl trivial ?_
    | refine x_neg_ rfl rfl (wrap_i64 (by omega) (by omega)) rfl trivial ?_
    | refine x_len rfl rfl (by assumption) rfl trivial ?_
    | refine x_pick_t rfl rfl rfl rfl trivial ?_
    | refine x_pick_f rfl rfl rfl rfl trivial ?_
    | refine x_not rfl rfl rfl trivial ?_
    | refine x_beq rfl rfl rfl rfl trivial ?_
    | refine x_bne rfl rfl rfl rfl trivial ?_
    | refine x_extract rfl rfl rfl rfl trivial ?_
    | refine x_nilCheck rfl rfl rfl trivial ?_
    | refine x_fieldAddr rfl rfl rfl rfl trivial ?_
    | refine x_skip trivial rfl rfl rfl ?_
    | refine x_indexAddr1 rfl rfl rfl (by assumption) (by omega) (by omega) rfl trivial ?_
    | refine x_indexAddr rfl rfl rfl (by assumption) (by omega) (by omega) rfl trivial ?_
    | refine x_nil ?_
    | refine cw_seq ?_
    | refine nw_seq ?_
    | refine nw_block ?_
    | refine cw_block ?_
    | refine cw_skip ?_
    | refine cw_region ?_
    | refine cw_exit rfl ?_
    | refine cw_true rfl ?_
    | refine cw_false rfl ?_)
  refine cw_cond rfl (fun h1 => ?_) (fun h1 => ?_) <;> (try simp at h1)
  · obtain ⟨rfl, h0⟩ := snil_len sA h1
    have : la = [] := by simpa using h0
    subst this
    repeat (first
      | refine x_move rfl rfl rfl trivial ?_
      | refine x_assign rfl rfl rfl trivial ?_
      | refine x_add rfl rfl rfl (wrap_i64 (by omega) (by omega)) rfl trivial ?_
      | refine x_sub_ rfl rfl rfl (wrap_i64 (by omega) (by omega)) rfl trivial ?_
      | refine x_sub_ rfl rfl rfl (wrap_u32 (by omega) (by omega)) rfl trivial ?_
      | refine x_add rfl rfl rfl (wrap_u32 (by omega) (by omega)) rfl trivial ?_
      | refine x_peqn rfl rfl rfl rfl trivial ?_
      | refine x_pnen rfl rfl rfl rfl trivial ?_
      | refine x_mul rfl rfl rfl (wrap_i64 (by omega) (by omega)) rfl trivial ?_
      | refine x_ibin rfl rfl rfl rfl rfl trivial ?_
      | refine x_neg_ rfl rfl (wrap_i64 (by omega) (by omega)) rfl trivial ?_
      | refine x_len rfl rfl (by assumption) rfl trivial ?_
      | refine x_pick_t rfl rfl rfl rfl trivial ?_
      | refine x_pick_f rfl rfl rfl rfl trivial ?_
      | refine x_not rfl rfl rfl trivial ?_
      | refine x_beq rfl rfl rfl rfl trivial ?_
      | refine x_bne rfl rfl rfl rfl trivial ?_
      | refine x_extract rfl rfl rfl rfl trivial ?_
      | refine x_nilCheck rfl rfl rfl trivial ?_
      | refine x_fieldAddr rfl rfl rfl rfl trivial ?_
      | refine x_skip trivial rfl rfl rfl ?_
      | refine x_indexAddr1 rfl rfl rfl (by assumption) (by omega) (by omega) rfl trivial ?_
      | refine x_indexAddr rfl rfl rfl (by assumption) (by omega) (by omega) rfl trivial ?_
      | refine x_nil ?_
      | refine cw_seq ?_
      | refine nw_seq ?_
      | refine nw_block ?_
      | refine cw_block ?_
      | refine cw_skip ?_
      | refine cw_region ?_
      | refine cw_exit rfl ?_
      | refine cw_true rfl ?_
      | refine cw_false rfl ?_)
    exact cw_ret1 rfl rfl ⟨Keep.refl _ _, Own.nil _ _, Fresh.nil _⟩
  · repeat (first
      | refine x_move rfl rfl rfl trivial ?_
      | refine x_assign rfl rfl rfl trivial ?_
      | refine x_add rfl rfl rfl (wrap_i64 (by omega) (by omega)) rfl trivial ?_
      | refine x_sub_ rfl rfl rfl (wrap_i64 (by omega) (by omega)) rfl trivial ?_
      | refine x_sub_ rfl rfl rfl (wrap_u32 (by omega) (by omega)) rfl trivial ?_
      | refine x_add rfl rfl rfl (wrap_u32 (by omega) (by omega)) rfl trivial ?_
      | refine x_peqn rfl rfl rfl rfl trivial ?_
      | refine x_pnen rfl rfl rfl rfl trivial ?_
      | refine x_mul rfl rfl rfl (wrap_i64 (by omega) (by omega)) rfl trivial ?_
      | refine x_ibin rfl rfl rfl rfl rfl trivial ?_
      | refine x_neg_ rfl rfl (wrap_i64 (by omega) (by omega)) rfl trivial ?_
      | refine x_len rfl rfl (by assumption) rfl trivial ?_
      | refine x_pick_t rfl rfl rfl rfl trivial ?_
      | refine x_pick_f rfl rfl rfl rfl trivial ?_
      | refine x_not rfl rfl rfl trivial ?_
      | refine x_beq rfl rfl rfl rfl trivial ?_
      | refine x_bne rfl rfl rfl rfl trivial ?_
      | refine x_extract rfl rfl rfl rfl trivial ?_
      | refine x_nilCheck rfl rfl rfl trivial ?_
      | refine x_fieldAddr rfl rfl rfl rfl trivial ?_
      | refine x_skip trivial rfl rfl rfl ?_
      | refine x_indexAddr1 rfl rfl rfl (by assumption) (by omega) (by omega) rfl trivial ?_
      | refine x_indexAddr rfl rfl rfl (by assumption) (by omega) (by omega) rfl trivial ?_
      | refine x_nil ?_
      | refine cw_seq ?_
      | refine nw_seq ?_
      | refine nw_block ?_
      | refine cw_block ?_
      | refine cw_skip ?_
      | refine cw_region ?_
      | refine cw_exit rfl ?_
      | refine cw_true rfl ?_
      | refine cw_false rfl ?_)
    refine x_buildSlice rfl rfl rfl rfl (by omega) (by simp) rfl trivial ?_
    intro H1 hn
    refine ⟨trivial, ?_⟩
    repeat (first
      | refine x_move rfl rfl rfl trivial ?_
      | refine x_assign rfl rfl rfl trivial ?_
      | refine x_add rfl rfl rfl (wrap_i64 (by omega) (by omega)) rfl trivial ?_
      | refine x_sub_ rfl rfl rfl (wrap_i64 (by omega) (by omega)) rfl trivial ?_
      | refine x_sub_ rfl rfl rfl (wrap_u32 (by omega) (by omega)) rfl trivial ?_
      | refine x_add rfl rfl rfl (wrap_u32 (by omega) (by omega)) rfl trivial ?_
      | refine x_peqn rfl rfl rfl rfl trivial ?_
      | refine x_pnen rfl rfl rfl rfl trivial ?_
      | refine x_mul rfl rfl rfl (wrap_i64 (by omega) (by omega)) rfl trivial ?_
      | refine x_ibin rfl rfl rfl rfl rfl trivial ?_
      | refine x_neg_ rfl rfl (wrap_i64 (by omega) (by omega)) rfl trivial ?_
      | refine x_len rfl rfl (by assumption) rfl trivial ?_
      | refine x_pick_t rfl rfl rfl rfl trivial ?_
      | refine x_pick_f rfl rfl rfl rfl trivial ?_
      | refine x_not rfl rfl rfl trivial ?_
      | refine x_beq rfl rfl rfl rfl trivial ?_
      | refine x_bne rfl rfl rfl rfl trivial ?_
      | refine x_extract rfl rfl rfl rfl trivial ?_
      | refine x_nilCheck rfl rfl rfl trivial ?_
      | refine x_fieldAddr rfl rfl rfl rfl trivial ?_
      | refine x_skip trivial rfl rfl rfl ?_
      | refine x_indexAddr1 rfl rfl rfl (by assumption) (by omega) (by omega) rfl trivial ?_
      | refine x_indexAddr rfl rfl rfl (by assumption) (by omega) (by omega) rfl trivial ?_
      | refine x_nil ?_
      | refine cw_seq ?_
      | refine nw_seq ?_
      | refine nw_block ?_
      | refine cw_block ?_
      | refine cw_skip ?_
      | refine cw_region ?_
      | refine cw_exit rfl ?_
      | refine cw_true rfl ?_
      | refine cw_false rfl ?_)
    have hO : Own 1 H1 (.slice (some ⟨H.size, 0, none⟩) 0 0) 0 [] := Own.new hn rfl (by omega)
    refine x_append (by rfl) (by rfl) (by rfl) rfl rfl rfl hO sA (by rw [u64s_length, Nat.mul_one]) (hA.2.keep hn.keep (fun _ h => h)) (u64s_oneC la) (by omega) rfl trivial ?_
    intro v' H2 hap
    refine ⟨trivial, ?_⟩
    repeat (first
      | refine x_move rfl rfl rfl trivial ?_
      | refine x_assign rfl rfl rfl trivial ?_
      | refine x_add rfl rfl rfl (wrap_i64 (by omega) (by omega)) rfl trivial ?_
      | refine x_sub_ rfl rfl rfl (wrap_i64 (by omega) (by omega)) rfl trivial ?_
      | refine x_sub_ rfl rfl rfl (wrap_u32 (by omega) (by omega)) rfl trivial ?_
      | refine x_add rfl rfl rfl (wrap_u32 (by omega) (by omega)) rfl trivial ?_
      | refine x_peqn rfl rfl rfl rfl trivial ?_
      | refine x_pnen rfl rfl rfl rfl trivial ?_
      | refine x_mul rfl rfl rfl (wrap_i64 (by omega) (by omega)) rfl trivial ?_
      | refine x_ibin rfl rfl rfl rfl rfl trivial ?_
      | refine x_neg_ rfl rfl (wrap_i64 (by omega) (by omega)) rfl trivial ?_
      | refine x_len rfl rfl (by assumption) rfl trivial ?_
      | refine x_pick_t rfl rfl rfl rfl trivial ?_
      | refine x_pick_f rfl rfl rfl rfl trivial ?_
      | refine x_not rfl rfl rfl trivial ?_
      | refine x_beq rfl rfl rfl rfl trivial ?_
      | refine x_bne rfl rfl rfl rfl trivial ?_
      | refine x_extract rfl rfl rfl rfl trivial ?_
      | refine x_nilCheck rfl rfl rfl trivial ?_
      | refine x_fieldAddr rfl rfl rfl rfl trivial ?_
      | refine x_skip trivial rfl rfl rfl ?_
      | refine x_indexAddr1 rfl rfl rfl (by assumption) (by omega) (by omega) rfl trivial ?_
      | refine x_indexAddr rfl rfl rfl (by assumption) (by omega) (by omega) rfl trivial ?_
      | refine x_nil ?_
      | refine cw_seq ?_
      | refine nw_seq ?_
      | refine nw_block ?_
      | refine cw_block ?_
      | refine cw_skip ?_
      | refine cw_region ?_
      | refine cw_exit rfl ?_
      | refine cw_true rfl ?_
      | refine cw_false rfl ?_)
    refine cw_ret1 rfl rfl ⟨hap.old (Fresh.mk_ _ _ _) hn.keep, ?_, hap.fresh (Fresh.mk_ _ _ _) (by have := hn.size; omega)⟩
    simpa using hap.own

theorem arena_New (most : Int) (H : Heap) : Ret Try.prog 9 [.int .i64 most] H (fun v H' => (¬ (0 ≤ most ∧ most ≤ 1048576) ∧ H = H' ∧ v = .pointer none) ∨
    ((0 ≤ most ∧ most ≤ 1048576) ∧ Keep Non H H' ∧ ∃ b K, v = ptr b 0 ∧ Sa K H' b ⟨most, [], []⟩ ∧ K.From H.size)) := by
  refine ret_of Try.func9 rfl rfl rfl rfl ?_
  intro w0
  repeat (first
    | refine x_move rfl rfl rfl trivial ?_
    | refine x_assign rfl rfl rfl trivial ?_
    | refine x_add rfl rfl rfl (wrap_i64 (by omega) (by omega)) rfl trivial ?_
    | refine x_sub_ rfl rfl rfl (wrap_i64 (by omega) (by omega)) rfl trivial ?_
    | refine x_sub_ rfl rfl rfl (wrap_u32 (by omega) (by omega)) rfl trivial ?_
    | refine x_add rfl rfl rfl (wrap_u32 (by omega) (by omega)) rfl trivial ?_
    | refine x_peqn rfl rfl rfl rfl trivial ?_
    | refine x_pnen rfl rfl rfl rfl trivial ?_
    | refine x_mul rfl rfl rfl (wrap_i64 (by omega) (by omega)) rfl trivial ?_
    | refine x_ibin rfl rfl rfl rfl rfl trivial ?_
    | refine x_neg_ rfl rfl (wrap_i64 (by omega) (by omega)) rfl trivial ?_
    | refine x_len rfl rfl (by assumption) rfl trivial ?_
    | refine x_pick_t rfl rfl rfl rfl trivial ?_
    | refine x_pick_f rfl rfl rfl rfl trivial ?_
    | refine x_not rfl rfl rfl trivial ?_
    | refine x_beq rfl rfl rfl rfl trivial ?_
    | refine x_bne rfl rfl rfl rfl trivial ?_
    | refine x_extract rfl rfl rfl rfl trivial ?_
    | refine x_nilCheck rfl rfl rfl trivial ?_
    | refine x_fieldAddr rfl rfl rfl rfl trivial ?_
    | refine x_skip trivial rfl rfl rfl ?_
    | refine x_indexAddr1 rfl rfl rfl (by assumption) (by omega) (by omega) rfl trivial ?_
    | refine x_indexAddr rfl rfl rfl (by assumption) (by omega) (by omega) rfl trivial ?_
    | refine x_nil ?_
    | refine cw_seq ?_
    | refine nw_seq ?_
    | refine nw_block ?_
    | refine cw_block ?_
    | refine cw_skip ?_
    | refine cw_region ?_
    | refine cw_exit rfl ?_
    | refine cw_true rfl ?_
    | refine cw_false rfl ?_)
  refine x_split 5 rfl (fun h1 => ?_) (fun h1 => ?_) <;> (try simp at h1)
  · repeat (first
      | refine x_move rfl rfl rfl trivial ?_
      | refine x_assign rfl rfl rfl trivial ?_
      | refine x_add rfl rfl rfl (wrap_i64 (by omega) (by omega)) rfl trivial ?_
      | refine x_sub_ rfl rfl rfl (wrap_i64 (by omega) (by omega)) rfl trivial ?_
      | refine x_sub_ rfl rfl rfl (wrap_u32 (by omega) (by omega)) rfl trivial ?_
      | refine x_add rfl rfl rfl (wrap_u32 (by omega) (by omega)) rfl trivial ?_
      | refine x_peqn rfl rfl rfl rfl trivial ?_
      | refine x_pnen rfl rfl rfl rfl trivial ?_
      | refine x_mul rfl rfl rfl (wrap_i64 (by omega) (by omega)) rfl trivial ?_
      | refine x_ibin rfl rfl rfl rfl rfl trivial ?_
      | refine x_neg_ rfl rfl (wrap_i64 (by omega) (by omega)) rfl trivial ?_
      | refine x_len rfl rfl (by assumption) rfl trivial ?_
      | refine x_pick_t rfl rfl rfl rfl trivial ?_
      | refine x_pick_f rfl rfl rfl rfl trivial ?_
      | refine x_not rfl rfl rfl trivial ?_
      | refine x_beq rfl rfl rfl rfl trivial ?_
      | refine x_bne rfl rfl rfl rfl trivial ?_
      | refine x_extract rfl rfl rfl rfl trivial ?_
      | refine x_nilCheck rfl rfl rfl trivial ?_
      | refine x_fieldAddr rfl rfl rfl rfl trivial ?_
      | refine x_skip trivial rfl rfl rfl ?_
      | refine x_indexAddr1 rfl rfl rfl (by assumption) (by omega) (by omega) rfl trivial ?_
      | refine x_indexAddr rfl rfl rfl (by assumption) (by omega) (by omega) rfl trivial ?_
      | refine x_nil ?_
      | refine cw_seq ?_
      | refine nw_seq ?_
      | refine nw_block ?_
      | refine cw_block ?_
      | refine cw_skip ?_
      | refine cw_region ?_
      | refine cw_exit rfl ?_
      | refine cw_true rfl ?_
      | refine cw_false rfl ?_)
    exact cw_ret1 rfl rfl (.inl ⟨by omega, rfl, rfl⟩)
  · repeat (first
      | refine x_move rfl rfl rfl trivial ?_
      | refine x_assign rfl rfl rfl trivial ?_
      | refine x_add rfl rfl rfl (wrap_i64 (by omega) (by omega)) rfl trivial ?_
      | refine x_sub_ rfl rfl rfl (wrap_i64 (by omega) (by omega)) rfl trivial ?_
      | refine x_sub_ rfl rfl rfl (wrap_u32 (by omega) (by omega)) rfl trivial ?_
      | refine x_add rfl rfl rfl (wrap_u32 (by omega) (by omega)) rfl trivial ?_
      | refine x_peqn rfl rfl rfl rfl trivial ?_
      | refine x_pnen rfl rfl rfl rfl trivial ?_
      | refine x_mul rfl rfl rfl (wrap_i64 (by omega) (by omega)) rfl trivial ?_
      | refine x_ibin rfl rfl rfl rfl rfl trivial ?_
      | refine x_neg_ rfl rfl (wrap_i64 (by omega) (by omega)) rfl trivial ?_
      | refine x_len rfl rfl (by assumption) rfl trivial ?_
      | refine x_pick_t rfl rfl rfl rfl trivial ?_
      | refine x_pick_f rfl rfl rfl rfl trivial ?_
      | refine x_not rfl rfl rfl trivial ?_
      | refine x_beq rfl rfl rfl rfl trivial ?_
      | refine x_bne rfl rfl rfl rfl trivial ?_
      | refine x_extract rfl rfl rfl rfl trivial ?_
      | refine x_nilCheck rfl rfl rfl trivial ?_
      | refine x_fieldAddr rfl rfl rfl rfl trivial ?_
      | refine x_skip trivial rfl rfl rfl ?_
      | refine x_indexAddr1 rfl rfl rfl (by assumption) (by omega) (by omega) rfl trivial ?_
      | refine x_indexAddr rfl rfl rfl (by assumption) (by omega) (by omega) rfl trivial ?_
      | refine x_nil ?_
      | refine cw_seq ?_
      | refine nw_seq ?_
      | refine nw_block ?_
      | refine cw_block ?_
      | refine cw_skip ?_
      | refine cw_region ?_
      | refine cw_exit rfl ?_
      | refine cw_true rfl ?_
      | refine cw_false rfl ?_)
    refine cw_cond rfl (fun h2 => ?_) (fun h2 => ?_) <;> (try simp at h2)
    · repeat (first
        | refine x_move rfl rfl rfl trivial ?_
        | refine x_assign rfl rfl rfl trivial ?_
        | refine x_add rfl rfl rfl (wrap_i64 (by omega) (by omega)) rfl trivial ?_
        | refine x_sub_ rfl rfl rfl (wrap_i64 (by omega) (by omega)) rfl trivial ?_
        | refine x_sub_ rfl rfl rfl (wrap_u32 (by omega) (by omega)) rfl trivial ?_
        | refine x_add rfl rfl rfl (wrap_u32 (by omega) (by omega)) rfl trivial ?_
        | refine x_peqn rfl rfl rfl rfl trivial ?_
        | refine x_pnen rfl rfl rfl rfl trivial ?_
        | refine x_mul rfl rfl rfl (wrap_i64 (by omega) (by omega)) rfl trivial ?_
        | refine x_ibin rfl rfl rfl rfl rfl trivial ?_
        | refine x_neg_ rfl rfl (wrap_i64 (by omega) (by omega)) rfl trivial ?_
        | refine x_len rfl rfl (by assumption) rfl trivial ?_
        | refine x_pick_t rfl rfl rfl rfl trivial ?_
        | refine x_pick_f rfl rfl rfl rfl trivial ?_
        | refine x_not rfl rfl rfl trivial ?_
        | refine x_beq rfl rfl rfl rfl trivial ?_
        | refine x_bne rfl rfl rfl rfl trivial ?_
        | refine x_extract rfl rfl rfl rfl trivial ?_
        | refine x_nilCheck rfl rfl rfl trivial ?_
        | refine x_fieldAddr rfl rfl rfl rfl trivial ?_
        | refine x_skip trivial rfl rfl rfl ?_
        | refine x_indexAddr1 rfl rfl rfl (by assumption) (by omega) (by omega) rfl trivial ?_
        | refine x_indexAddr rfl rfl rfl (by assumption) (by omega) (by omega) rfl trivial ?_
        | refine x_nil ?_
        | refine cw_seq ?_
        | refine nw_seq ?_
        | refine nw_block ?_
        | refine cw_block ?_
        | refine cw_skip ?_
        | refine cw_region ?_
        | refine cw_exit rfl ?_
        | refine cw_true rfl ?_
        | refine cw_false rfl ?_)
      exact cw_ret1 rfl rfl (.inl ⟨by omega, rfl, rfl⟩)
    · repeat (first
        | refine x_move rfl rfl rfl trivial ?_
        | refine x_assign rfl rfl rfl trivial ?_
        | refine x_add rfl rfl rfl (wrap_i64 (by omega) (by omega)) rfl trivial ?_
        | refine x_sub_ rfl rfl rfl (wrap_i64 (by omega) (by omega)) rfl trivial ?_
        | refine x_sub_ rfl rfl rfl (wrap_u32 (by omega) (by omega)) rfl trivial ?_
        | refine x_add rfl rfl rfl (wrap_u32 (by omega) (by omega)) rfl trivial ?_
        | refine x_peqn rfl rfl rfl rfl trivial ?_
        | refine x_pnen rfl rfl rfl rfl trivial ?_
        | refine x_mul rfl rfl rfl (wrap_i64 (by omega) (by omega)) rfl trivial ?_
        | refine x_ibin rfl rfl rfl rfl rfl trivial ?_
        | refine x_neg_ rfl rfl (wrap_i64 (by omega) (by omega)) rfl trivial ?_
        | refine x_len rfl rfl (by assumption) rfl trivial ?_
        | refine x_pick_t rfl rfl rfl rfl trivial ?_
        | refine x_pick_f rfl rfl rfl rfl trivial ?_
        | refine x_not rfl rfl rfl trivial ?_
        | refine x_beq rfl rfl rfl rfl trivial ?_
        | refine x_bne rfl rfl rfl rfl trivial ?_
        | refine x_extract rfl rfl rfl rfl trivial ?_
        | refine x_nilCheck rfl rfl rfl trivial ?_
        | refine x_fieldAddr rfl rfl rfl rfl trivial ?_
        | refine x_skip trivial rfl rfl rfl ?_
        | refine x_indexAddr1 rfl rfl rfl (by assumption) (by omega) (by omega) rfl trivial ?_
        | refine x_indexAddr rfl rfl rfl (by assumption) (by omega) (by omega) rfl trivial ?_
        | refine x_nil ?_
        | refine cw_seq ?_
        | refine nw_seq ?_
        | refine nw_block ?_
        | refine cw_block ?_
        | refine cw_skip ?_
        | refine cw_region ?_
        | refine cw_exit rfl ?_
        | refine cw_true rfl ?_
        | refine cw_false rfl ?_)
      refine x_build (cs := [.int .i64 most, .slice none 0 0, .slice none 0 0]) rfl rfl rfl (by simp [oneC, Value.oneCell']) rfl trivial ?_
      refine x_box rfl rfl rfl trivial ?_
      intro H1 hn1
      refine ⟨trivial, ?_⟩
      have hs1 := hn1.size
      repeat (first
        | refine x_move rfl rfl rfl trivial ?_
        | refine x_assign rfl rfl rfl trivial ?_
        | refine x_add rfl rfl rfl (wrap_i64 (by omega) (by omega)) rfl trivial ?_
        | refine x_sub_ rfl rfl rfl (wrap_i64 (by omega) (by omega)) rfl trivial ?_
        | refine x_sub_ rfl rfl rfl (wrap_u32 (by omega) (by omega)) rfl trivial ?_
        | refine x_add rfl rfl rfl (wrap_u32 (by omega) (by omega)) rfl trivial ?_
        | refine x_peqn rfl rfl rfl rfl trivial ?_
        | refine x_pnen rfl rfl rfl rfl trivial ?_
        | refine x_mul rfl rfl rfl (wrap_i64 (by omega) (by omega)) rfl trivial ?_
        | refine x_ibin rfl rfl rfl rfl rfl trivial ?_
        | refine x_neg_ rfl rfl (wrap_i64 (by omega) (by omega)) rfl trivial ?_
        | refine x_len rfl rfl (by assumption) rfl trivial ?_
        | refine x_pick_t rfl rfl rfl rfl trivial ?_
        | refine x_pick_f rfl rfl rfl rfl trivial ?_
        | refine x_not rfl rfl rfl trivial ?_
        | refine x_beq rfl rfl rfl rfl trivial ?_
        | refine x_bne rfl rfl rfl rfl trivial ?_
        | refine x_extract rfl rfl rfl rfl trivial ?_
        | refine x_nilCheck rfl rfl rfl trivial ?_
        | refine x_fieldAddr rfl rfl rfl rfl trivial ?_
        | refine x_skip trivial rfl rfl rfl ?_
        | refine x_indexAddr1 rfl rfl rfl (by assumption) (by omega) (by omega) rfl trivial ?_
        | refine x_indexAddr rfl rfl rfl (by assumption) (by omega) (by omega) rfl trivial ?_
        | refine x_nil ?_
        | refine cw_seq ?_
        | refine nw_seq ?_
        | refine nw_block ?_
        | refine cw_block ?_
        | refine cw_skip ?_
        | refine cw_region ?_
        | refine cw_exit rfl ?_
        | refine cw_true rfl ?_
        | refine cw_false rfl ?_)
      refine cw_ret1 rfl rfl (.inr ⟨⟨h1, h2⟩, hn1.keep, H.size, fun b => if b = H.size then 1 else 0, rfl, ⟨_, _, fun c hc => ?_, if_pos rfl, hn1.blk, Rw.nil _ _ _ _, fun h => by simp [sc] at h, Rw.nil _ _ _ _, fun h => by simp [sc] at h⟩, fun c hc => ?_⟩)
      · by_cases e : c = H.size
        · omega
        · simp [e] at hc
      · by_cases e : c = H.size
        · omega
        · simp [e] at hc

theorem arena_at {K : Role} {b h : Nat} {a : Ar} {vc vb : Value} {H : Heap} (hM : Ma K H b vc vb [.int .i64 a.most, vc, vb] a.cs a.back) (hh : h < 4294967296) (hl : a.cs.length ≤ 1000000) :
    Ret Try.prog 29 [ptr b 0, .int .u32 (h : Nat)] H (fun v H' => H = H' ∧ v = if hasA a h then ptr (sb vc) (so vc + (h - 1) * 2) else .pointer none) := by
  have sC := hM.hC.sl
  rw [List.length_zipIdx] at sC
  have cC := sC.cap
  have c1 : cel H b 1 = some vc := by rw [hM.hb.cel]; rfl
  refine ret_of Try.func29 rfl rfl rfl rfl ?_
  intro w0
  repeat (first
    | refine x_move rfl rfl rfl trivial ?_
    | refine x_assign rfl rfl rfl trivial ?_
    | refine x_add rfl rfl rfl (wrap_i64 (by omega) (by omega)) rfl trivial ?_
    | refine x_sub_ rfl rfl rfl (wrap_i64 (by omega) (by omega)) rfl trivial ?_
    | refine x_sub_ rfl rfl rfl (wrap_u32 (by omega) (by omega)) rfl trivial ?_
    | refine x_add rfl rfl rfl (wrap_u32 (by omega) (by omega)) rfl trivial ?_
    | refine x_peqn rfl rfl rfl rfl trivial ?_
    | refine x_pnen rfl rfl rfl rfl trivial ?_
    | refine x_mul rfl rfl rfl (wrap_i64 (by omega) (by omega)) rfl trivial ?_
    | refine x_ibin rfl rfl rfl rfl rfl trivial ?_
    | refine x_neg_ rfl rfl (wrap_i64 (by omega) (by omega)) rfl trivial ?_
    | refine x_len rfl rfl (by assumption) rfl trivial ?_
    | refine x_pick_t rfl rfl rfl rfl trivial ?_
    | refine x_pick_f rfl rfl rfl rfl trivial ?_
    | refine x_not rfl rfl rfl trivial ?_
    | refine x_beq rfl rfl rfl rfl trivial ?_
    | refine x_bne rfl rfl rfl rfl trivial ?_
    | refine x_extract rfl rfl rfl rfl trivial ?_
    | refine x_nilCheck rfl rfl rfl trivial ?_
    | refine x_fieldAddr rfl rfl rfl rfl trivial ?_
    | refine x_skip trivial rfl rfl rfl ?_
    | refine x_indexAddr1 rfl rfl rfl (by assumption) (by omega) (by omega) rfl trivial ?_
    | refine x_indexAddr rfl rfl rfl (by assumption) (by omega) (by omega) rfl trivial ?_
    | refine x_nil ?_
    | refine cw_seq ?_
    | refine nw_seq ?_
    | refine nw_block ?_
    | refine cw_block ?_
    | refine cw_skip ?_
    | refine cw_region ?_
    | refine cw_exit rfl ?_
    | refine cw_true rfl ?_
    | refine cw_false rfl ?_)
  refine x_split 11 rfl (fun hz => ?_) (fun hz => ?_) <;> (try simp at hz)
  · repeat (first
      | refine x_move rfl rfl rfl trivial ?_
      | refine x_assign rfl rfl rfl trivial ?_
      | refine x_add rfl rfl rfl (wrap_i64 (by omega) (by omega)) rfl trivial ?_
      | refine x_sub_ rfl rfl rfl (wrap_i64 (by omega) (by omega)) rfl trivial ?_
      | refine x_sub_ rfl rfl rfl (wrap_u32 (by omega) (by omega)) rfl trivial ?_
      | refine x_add rfl rfl rfl (wrap_u32 (by omega) (by omega)) rfl trivial ?_
      | refine x_peqn rfl rfl rfl rfl trivial ?_
      | refine x_pnen rfl rfl rfl rfl trivial ?_
      | refine x_mul rfl rfl rfl (wrap_i64 (by omega) (by omega)) rfl trivial ?_
      | refine x_ibin rfl rfl rfl rfl rfl trivial ?_
      | refine x_neg_ rfl rfl (wrap_i64 (by omega) (by omega)) rfl trivial ?_
      | refine x_len rfl rfl (by assumption) rfl trivial ?_
      | refine x_pick_t rfl rfl rfl rfl trivial ?_
      | refine x_pick_f rfl rfl rfl rfl trivial ?_
      | refine x_not rfl rfl rfl trivial ?_
      | refine x_beq rfl rfl rfl rfl trivial ?_
      | refine x_bne rfl rfl rfl rfl trivial ?_
      | refine x_extract rfl rfl rfl rfl trivial ?_
      | refine x_nilCheck rfl rfl rfl trivial ?_
      | refine x_fieldAddr rfl rfl rfl rfl trivial ?_
      | refine x_skip trivial rfl rfl rfl ?_
      | refine x_indexAddr1 rfl rfl rfl (by assumption) (by omega) (by omega) rfl trivial ?_
      | refine x_indexAddr rfl rfl rfl (by assumption) (by omega) (by omega) rfl trivial ?_
      | refine x_nil ?_
      | refine cw_seq ?_
      | refine nw_seq ?_
      | refine nw_block ?_
      | refine cw_block ?_
      | refine cw_skip ?_
      | refine cw_region ?_
      | refine cw_exit rfl ?_
      | refine cw_true rfl ?_
      | refine cw_false rfl ?_)
    refine cw_ret1 rfl rfl ⟨rfl, ?_⟩
    rw [if_neg]
    unfold hasA
    rw [hz]
    cases a.cs[0 - 1]? <;> simp
  · repeat (first
      | refine x_move rfl rfl rfl trivial ?_
      | refine x_assign rfl rfl rfl trivial ?_
      | refine x_add rfl rfl rfl (wrap_i64 (by omega) (by omega)) rfl trivial ?_
      | refine x_sub_ rfl rfl rfl (wrap_i64 (by omega) (by omega)) rfl trivial ?_
      | refine x_sub_ rfl rfl rfl (wrap_u32 (by omega) (by omega)) rfl trivial ?_
      | refine x_add rfl rfl rfl (wrap_u32 (by omega) (by omega)) rfl trivial ?_
      | refine x_peqn rfl rfl rfl rfl trivial ?_
      | refine x_pnen rfl rfl rfl rfl trivial ?_
      | refine x_mul rfl rfl rfl (wrap_i64 (by omega) (by omega)) rfl trivial ?_
      | refine x_ibin rfl rfl rfl rfl rfl trivial ?_
      | refine x_neg_ rfl rfl (wrap_i64 (by omega) (by omega)) rfl trivial ?_
      | refine x_len rfl rfl (by assumption) rfl trivial ?_
      | refine x_pick_t rfl rfl rfl rfl trivial ?_
      | refine x_pick_f rfl rfl rfl rfl trivial ?_
      | refine x_not rfl rfl rfl trivial ?_
      | refine x_beq rfl rfl rfl rfl trivial ?_
      | refine x_bne rfl rfl rfl rfl trivial ?_
      | refine x_extract rfl rfl rfl rfl trivial ?_
      | refine x_nilCheck rfl rfl rfl trivial ?_
      | refine x_fieldAddr rfl rfl rfl rfl trivial ?_
      | refine x_skip trivial rfl rfl rfl ?_
      | refine x_indexAddr1 rfl rfl rfl (by assumption) (by omega) (by omega) rfl trivial ?_
      | refine x_indexAddr rfl rfl rfl (by assumption) (by omega) (by omega) rfl trivial ?_
      | refine x_nil ?_
      | refine cw_seq ?_
      | refine nw_seq ?_
      | refine nw_block ?_
      | refine cw_block ?_
      | refine cw_skip ?_
      | refine cw_region ?_
      | refine cw_exit rfl ?_
      | refine cw_true rfl ?_
      | refine cw_false rfl ?_)
    refine x_conv_int rfl rfl rfl trivial ?_
    rw [wrap_i64 (by omega) (by omega)]
    repeat (first
      | refine x_move rfl rfl rfl trivial ?_
      | refine x_assign rfl rfl rfl trivial ?_
      | refine x_add rfl rfl rfl (wrap_i64 (by omega) (by omega)) rfl trivial ?_
      | refine x_sub_ rfl rfl rfl (wrap_i64 (by omega) (by omega)) rfl trivial ?_
      | refine x_sub_ rfl rfl rfl (wrap_u32 (by omega) (by omega)) rfl trivial ?_
      | refine x_add rfl rfl rfl (wrap_u32 (by omega) (by omega)) rfl trivial ?_
      | refine x_peqn rfl rfl rfl rfl trivial ?_
      | refine x_pnen rfl rfl rfl rfl trivial ?_
      | refine x_mul rfl rfl rfl (wrap_i64 (by omega) (by omega)) rfl trivial ?_
      | refine x_ibin rfl rfl rfl rfl rfl trivial ?_
      | refine x_neg_ rfl rfl (wrap_i64 (by omega) (by omega)) rfl trivial ?_
      | refine x_len rfl rfl (by assumption) rfl trivial ?_
      | refine x_pick_t rfl rfl rfl rfl trivial ?_
      | refine x_pick_f rfl rfl rfl rfl trivial ?_
      | refine x_not rfl rfl rfl trivial ?_
      | refine x_beq rfl rfl rfl rfl trivial ?_
      | refine x_bne rfl rfl rfl rfl trivial ?_
      | refine x_extract rfl rfl rfl rfl trivial ?_
      | refine x_nilCheck rfl rfl rfl trivial ?_
      | refine x_fieldAddr rfl rfl rfl rfl trivial ?_
      | refine x_skip trivial rfl rfl rfl ?_
      | refine x_indexAddr1 rfl rfl rfl (by assumption) (by omega) (by omega) rfl trivial ?_
      | refine x_indexAddr rfl rfl rfl (by assumption) (by omega) (by omega) rfl trivial ?_
      | refine x_nil ?_
      | refine cw_seq ?_
      | refine nw_seq ?_
      | refine nw_block ?_
      | refine cw_block ?_
      | refine cw_skip ?_
      | refine cw_region ?_
      | refine cw_exit rfl ?_
      | refine cw_true rfl ?_
      | refine cw_false rfl ?_)
    refine x_load rfl rfl (hpmt (c1)) rfl trivial ?_
    repeat (first
      | refine x_move rfl rfl rfl trivial ?_
      | refine x_assign rfl rfl rfl trivial ?_
      | refine x_add rfl rfl rfl (wrap_i64 (by omega) (by omega)) rfl trivial ?_
      | refine x_sub_ rfl rfl rfl (wrap_i64 (by omega) (by omega)) rfl trivial ?_
      | refine x_sub_ rfl rfl rfl (wrap_u32 (by omega) (by omega)) rfl trivial ?_
      | refine x_add rfl rfl rfl (wrap_u32 (by omega) (by omega)) rfl trivial ?_
      | refine x_peqn rfl rfl rfl rfl trivial ?_
      | refine x_pnen rfl rfl rfl rfl trivial ?_
      | refine x_mul rfl rfl rfl (wrap_i64 (by omega) (by omega)) rfl trivial ?_
      | refine x_ibin rfl rfl rfl rfl rfl trivial ?_
      | refine x_neg_ rfl rfl (wrap_i64 (by omega) (by omega)) rfl trivial ?_
      | refine x_len rfl rfl (by assumption) rfl trivial ?_
      | refine x_pick_t rfl rfl rfl rfl trivial ?_
      | refine x_pick_f rfl rfl rfl rfl trivial ?_
      | refine x_not rfl rfl rfl trivial ?_
      | refine x_beq rfl rfl rfl rfl trivial ?_
      | refine x_bne rfl rfl rfl rfl trivial ?_
      | refine x_extract rfl rfl rfl rfl trivial ?_
      | refine x_nilCheck rfl rfl rfl trivial ?_
      | refine x_fieldAddr rfl rfl rfl rfl trivial ?_
      | refine x_skip trivial rfl rfl rfl ?_
      | refine x_indexAddr1 rfl rfl rfl (by assumption) (by omega) (by omega) rfl trivial ?_
      | refine x_indexAddr rfl rfl rfl (by assumption) (by omega) (by omega) rfl trivial ?_
      | refine x_nil ?_
      | refine cw_seq ?_
      | refine nw_seq ?_
      | refine nw_block ?_
      | refine cw_block ?_
      | refine cw_skip ?_
      | refine cw_region ?_
      | refine cw_exit rfl ?_
      | refine cw_true rfl ?_
      | refine cw_false rfl ?_)
    refine x_split 21 rfl (fun hg => ?_) (fun hg => ?_) <;> (try simp at hg)
    · repeat (first
        | refine x_move rfl rfl rfl trivial ?_
        | refine x_assign rfl rfl rfl trivial ?_
        | refine x_add rfl rfl rfl (wrap_i64 (by omega) (by omega)) rfl trivial ?_
        | refine x_sub_ rfl rfl rfl (wrap_i64 (by omega) (by omega)) rfl trivial ?_
        | refine x_sub_ rfl rfl rfl (wrap_u32 (by omega) (by omega)) rfl trivial ?_
        | refine x_add rfl rfl rfl (wrap_u32 (by omega) (by omega)) rfl trivial ?_
        | refine x_peqn rfl rfl rfl rfl trivial ?_
        | refine x_pnen rfl rfl rfl rfl trivial ?_
        | refine x_mul rfl rfl rfl (wrap_i64 (by omega) (by omega)) rfl trivial ?_
        | refine x_ibin rfl rfl rfl rfl rfl trivial ?_
        | refine x_neg_ rfl rfl (wrap_i64 (by omega) (by omega)) rfl trivial ?_
        | refine x_len rfl rfl (by assumption) rfl trivial ?_
        | refine x_pick_t rfl rfl rfl rfl trivial ?_
        | refine x_pick_f rfl rfl rfl rfl trivial ?_
        | refine x_not rfl rfl rfl trivial ?_
        | refine x_beq rfl rfl rfl rfl trivial ?_
        | refine x_bne rfl rfl rfl rfl trivial ?_
        | refine x_extract rfl rfl rfl rfl trivial ?_
        | refine x_nilCheck rfl rfl rfl trivial ?_
        | refine x_fieldAddr rfl rfl rfl rfl trivial ?_
        | refine x_skip trivial rfl rfl rfl ?_
        | refine x_indexAddr1 rfl rfl rfl (by assumption) (by omega) (by omega) rfl trivial ?_
        | refine x_indexAddr rfl rfl rfl (by assumption) (by omega) (by omega) rfl trivial ?_
        | refine x_nil ?_
        | refine cw_seq ?_
        | refine nw_seq ?_
        | refine nw_block ?_
        | refine cw_block ?_
        | refine cw_skip ?_
        | refine cw_region ?_
        | refine cw_exit rfl ?_
        | refine cw_true rfl ?_
        | refine cw_false rfl ?_)
      refine cw_ret1 rfl rfl ⟨rfl, ?_⟩
      rw [if_neg]
      unfold hasA
      rw [List.getElem?_eq_none (by omega)]
      simp
    · obtain ⟨m, rfl⟩ : ∃ m, h = m + 1 := ⟨h - 1, by omega⟩
      have em : ((m + 1 : Nat) : Int) - 1 = (m : Int) := by omega
      obtain ⟨y, hy⟩ : ∃ y, a.cs[m]? = some y := ⟨_, List.getElem?_eq_getElem (by omega)⟩
      obtain ⟨w, _, _, _, hc1⟩ := hM.at_ hy
      repeat (first
        | refine x_move rfl rfl rfl trivial ?_
        | refine x_assign rfl rfl rfl trivial ?_
        | refine x_add rfl rfl rfl (wrap_i64 (by omega) (by omega)) rfl trivial ?_
        | refine x_sub_ rfl rfl rfl (wrap_i64 (by omega) (by omega)) rfl trivial ?_
        | refine x_sub_ rfl rfl rfl (wrap_u32 (by omega) (by omega)) rfl trivial ?_
        | refine x_add rfl rfl rfl (wrap_u32 (by omega) (by omega)) rfl trivial ?_
        | refine x_peqn rfl rfl rfl rfl trivial ?_
        | refine x_pnen rfl rfl rfl rfl trivial ?_
        | refine x_mul rfl rfl rfl (wrap_i64 (by omega) (by omega)) rfl trivial ?_
        | refine x_ibin rfl rfl rfl rfl rfl trivial ?_
        | refine x_neg_ rfl rfl (wrap_i64 (by omega) (by omega)) rfl trivial ?_
        | refine x_len rfl rfl (by assumption) rfl trivial ?_
        | refine x_pick_t rfl rfl rfl rfl trivial ?_
        | refine x_pick_f rfl rfl rfl rfl trivial ?_
        | refine x_not rfl rfl rfl trivial ?_
        | refine x_beq rfl rfl rfl rfl trivial ?_
        | refine x_bne rfl rfl rfl rfl trivial ?_
        | refine x_extract rfl rfl rfl rfl trivial ?_
        | refine x_nilCheck rfl rfl rfl trivial ?_
        | refine x_fieldAddr rfl rfl rfl rfl trivial ?_
        | refine x_skip trivial rfl rfl rfl ?_
        | refine x_indexAddr1 rfl rfl rfl (by assumption) (by omega) (by omega) rfl trivial ?_
        | refine x_indexAddr rfl rfl rfl (by assumption) (by omega) (by omega) rfl trivial ?_
        | refine x_nil ?_
        | refine cw_seq ?_
        | refine nw_seq ?_
        | refine nw_block ?_
        | refine cw_block ?_
        | refine cw_skip ?_
        | refine cw_region ?_
        | refine cw_exit rfl ?_
        | refine cw_true rfl ?_
        | refine cw_false rfl ?_)
      refine x_load rfl rfl (hpmt (c1)) rfl trivial ?_
      repeat (first
        | refine x_move rfl rfl rfl trivial ?_
        | refine x_assign rfl rfl rfl trivial ?_
        | refine x_add rfl rfl rfl (wrap_i64 (by omega) (by omega)) rfl trivial ?_
        | refine x_sub_ rfl rfl rfl (wrap_i64 (by omega) (by omega)) rfl trivial ?_
        | refine x_sub_ rfl rfl rfl (wrap_u32 (by omega) (by omega)) rfl trivial ?_
        | refine x_add rfl rfl rfl (wrap_u32 (by omega) (by omega)) rfl trivial ?_
        | refine x_peqn rfl rfl rfl rfl trivial ?_
        | refine x_pnen rfl rfl rfl rfl trivial ?_
        | refine x_mul rfl rfl rfl (wrap_i64 (by omega) (by omega)) rfl trivial ?_
        | refine x_ibin rfl rfl rfl rfl rfl trivial ?_
        | refine x_neg_ rfl rfl (wrap_i64 (by omega) (by omega)) rfl trivial ?_
        | refine x_len rfl rfl (by assumption) rfl trivial ?_
        | refine x_pick_t rfl rfl rfl rfl trivial ?_
        | refine x_pick_f rfl rfl rfl rfl trivial ?_
        | refine x_not rfl rfl rfl trivial ?_
        | refine x_beq rfl rfl rfl rfl trivial ?_
        | refine x_bne rfl rfl rfl rfl trivial ?_
        | refine x_extract rfl rfl rfl rfl trivial ?_
        | refine x_nilCheck rfl rfl rfl trivial ?_
        | refine x_fieldAddr rfl rfl rfl rfl trivial ?_
        | refine x_skip trivial rfl rfl rfl ?_
        | refine x_indexAddr1 rfl rfl rfl (by assumption) (by omega) (by omega) rfl trivial ?_
        | refine x_indexAddr rfl rfl rfl (by assumption) (by omega) (by omega) rfl trivial ?_
        | refine x_nil ?_
        | refine cw_seq ?_
        | refine nw_seq ?_
        | refine nw_block ?_
        | refine cw_block ?_
        | refine cw_skip ?_
        | refine cw_region ?_
        | refine cw_exit rfl ?_
        | refine cw_true rfl ?_
        | refine cw_false rfl ?_)
      rw [em]
      refine x_load rfl rfl (hpmt (hc1)) rfl trivial ?_
      repeat (first
        | refine x_move rfl rfl rfl trivial ?_
        | refine x_assign rfl rfl rfl trivial ?_
        | refine x_add rfl rfl rfl (wrap_i64 (by omega) (by omega)) rfl trivial ?_
        | refine x_sub_ rfl rfl rfl (wrap_i64 (by omega) (by omega)) rfl trivial ?_
        | refine x_sub_ rfl rfl rfl (wrap_u32 (by omega) (by omega)) rfl trivial ?_
        | refine x_add rfl rfl rfl (wrap_u32 (by omega) (by omega)) rfl trivial ?_
        | refine x_peqn rfl rfl rfl rfl trivial ?_
        | refine x_pnen rfl rfl rfl rfl trivial ?_
        | refine x_mul rfl rfl rfl (wrap_i64 (by omega) (by omega)) rfl trivial ?_
        | refine x_ibin rfl rfl rfl rfl rfl trivial ?_
        | refine x_neg_ rfl rfl (wrap_i64 (by omega) (by omega)) rfl trivial ?_
        | refine x_len rfl rfl (by assumption) rfl trivial ?_
        | refine x_pick_t rfl rfl rfl rfl trivial ?_
        | refine x_pick_f rfl rfl rfl rfl trivial ?_
        | refine x_not rfl rfl rfl trivial ?_
        | refine x_beq rfl rfl rfl rfl trivial ?_
        | refine x_bne rfl rfl rfl rfl trivial ?_
        | refine x_extract rfl rfl rfl rfl trivial ?_
        | refine x_nilCheck rfl rfl rfl trivial ?_
        | refine x_fieldAddr rfl rfl rfl rfl trivial ?_
        | refine x_skip trivial rfl rfl rfl ?_
        | refine x_indexAddr1 rfl rfl rfl (by assumption) (by omega) (by omega) rfl trivial ?_
        | refine x_indexAddr rfl rfl rfl (by assumption) (by omega) (by omega) rfl trivial ?_
        | refine x_nil ?_
        | refine cw_seq ?_
        | refine nw_seq ?_
        | refine nw_block ?_
        | refine cw_block ?_
        | refine cw_skip ?_
        | refine cw_region ?_
        | refine cw_exit rfl ?_
        | refine cw_true rfl ?_
        | refine cw_false rfl ?_)
      have hk : hasA a (m + 1) = y.2 := by unfold hasA; rw [Nat.add_sub_cancel, hy]; simp
      refine cw_cond rfl (fun h6 => ?_) (fun h6 => ?_) <;> (try simp at h6)
      · repeat (first
          | refine x_move rfl rfl rfl trivial ?_
          | refine x_assign rfl rfl rfl trivial ?_
          | refine x_add rfl rfl rfl (wrap_i64 (by omega) (by omega)) rfl trivial ?_
          | refine x_sub_ rfl rfl rfl (wrap_i64 (by omega) (by omega)) rfl trivial ?_
          | refine x_sub_ rfl rfl rfl (wrap_u32 (by omega) (by omega)) rfl trivial ?_
          | refine x_add rfl rfl rfl (wrap_u32 (by omega) (by omega)) rfl trivial ?_
          | refine x_peqn rfl rfl rfl rfl trivial ?_
          | refine x_pnen rfl rfl rfl rfl trivial ?_
          | refine x_mul rfl rfl rfl (wrap_i64 (by omega) (by omega)) rfl trivial ?_
          | refine x_ibin rfl rfl rfl rfl rfl trivial ?_
          | refine x_neg_ rfl rfl (wrap_i64 (by omega) (by omega)) rfl trivial ?_
          | refine x_len rfl rfl (by assumption) rfl trivial ?_
          | refine x_pick_t rfl rfl rfl rfl trivial ?_
          | refine x_pick_f rfl rfl rfl rfl trivial ?_
          | refine x_not rfl rfl rfl trivial ?_
          | refine x_beq rfl rfl rfl rfl trivial ?_
          | refine x_bne rfl rfl rfl rfl trivial ?_
          | refine x_extract rfl rfl rfl rfl trivial ?_
          | refine x_nilCheck rfl rfl rfl trivial ?_
          | refine x_fieldAddr rfl rfl rfl rfl trivial ?_
          | refine x_skip trivial rfl rfl rfl ?_
          | refine x_indexAddr1 rfl rfl rfl (by assumption) (by omega) (by omega) rfl trivial ?_
          | refine x_indexAddr rfl rfl rfl (by assumption) (by omega) (by omega) rfl trivial ?_
          | refine x_nil ?_
          | refine cw_seq ?_
          | refine nw_seq ?_
          | refine nw_block ?_
          | refine cw_block ?_
          | refine cw_skip ?_
          | refine cw_region ?_
          | refine cw_exit rfl ?_
          | refine cw_true rfl ?_
          | refine cw_false rfl ?_)
        refine cw_ret1 rfl rfl ⟨rfl, ?_⟩
        rw [hk, h6]
        rfl
      · repeat (first
          | refine x_move rfl rfl rfl trivial ?_
          | refine x_assign rfl rfl rfl trivial ?_
          | refine x_add rfl rfl rfl (wrap_i64 (by omega) (by omega)) rfl trivial ?_
          | refine x_sub_ rfl rfl rfl (wrap_i64 (by omega) (by omega)) rfl trivial ?_
          | refine x_sub_ rfl rfl rfl (wrap_u32 (by omega) (by omega)) rfl trivial ?_
          | refine x_add rfl rfl rfl (wrap_u32 (by omega) (by omega)) rfl trivial ?_
          | refine x_peqn rfl rfl rfl rfl trivial ?_
          | refine x_pnen rfl rfl rfl rfl trivial ?_
          | refine x_mul rfl rfl rfl (wrap_i64 (by omega) (by omega)) rfl trivial ?_
          | refine x_ibin rfl rfl rfl rfl rfl trivial ?_
          | refine x_neg_ rfl rfl (wrap_i64 (by omega) (by omega)) rfl trivial ?_
          | refine x_len rfl rfl (by assumption) rfl trivial ?_
          | refine x_pick_t rfl rfl rfl rfl trivial ?_
          | refine x_pick_f rfl rfl rfl rfl trivial ?_
          | refine x_not rfl rfl rfl trivial ?_
          | refine x_beq rfl rfl rfl rfl trivial ?_
          | refine x_bne rfl rfl rfl rfl trivial ?_
          | refine x_extract rfl rfl rfl rfl trivial ?_
          | refine x_nilCheck rfl rfl rfl trivial ?_
          | refine x_fieldAddr rfl rfl rfl rfl trivial ?_
          | refine x_skip trivial rfl rfl rfl ?_
          | refine x_indexAddr1 rfl rfl rfl (by assumption) (by omega) (by omega) rfl trivial ?_
          | refine x_indexAddr rfl rfl rfl (by assumption) (by omega) (by omega) rfl trivial ?_
          | refine x_nil ?_
          | refine cw_seq ?_
          | refine nw_seq ?_
          | refine nw_block ?_
          | refine cw_block ?_
          | refine cw_skip ?_
          | refine cw_region ?_
          | refine cw_exit rfl ?_
          | refine cw_true rfl ?_
          | refine cw_false rfl ?_)
        refine x_load rfl rfl (hpmt (c1)) rfl trivial ?_
        repeat (first
          | refine x_move rfl rfl rfl trivial ?_
          | refine x_assign rfl rfl rfl trivial ?_
          | refine x_add rfl rfl rfl (wrap_i64 (by omega) (by omega)) rfl trivial ?_
          | refine x_sub_ rfl rfl rfl (wrap_i64 (by omega) (by omega)) rfl trivial ?_
          | refine x_sub_ rfl rfl rfl (wrap_u32 (by omega) (by omega)) rfl trivial ?_
          | refine x_add rfl rfl rfl (wrap_u32 (by omega) (by omega)) rfl trivial ?_
          | refine x_peqn rfl rfl rfl rfl trivial ?_
          | refine x_pnen rfl rfl rfl rfl trivial ?_
          | refine x_mul rfl rfl rfl (wrap_i64 (by omega) (by omega)) rfl trivial ?_
          | refine x_ibin rfl rfl rfl rfl rfl trivial ?_
          | refine x_neg_ rfl rfl (wrap_i64 (by omega) (by omega)) rfl trivial ?_
          | refine x_len rfl rfl (by assumption) rfl trivial ?_
          | refine x_pick_t rfl rfl rfl rfl trivial ?_
          | refine x_pick_f rfl rfl rfl rfl trivial ?_
          | refine x_not rfl rfl rfl trivial ?_
          | refine x_beq rfl rfl rfl rfl trivial ?_
          | refine x_bne rfl rfl rfl rfl trivial ?_
          | refine x_extract rfl rfl rfl rfl trivial ?_
          | refine x_nilCheck rfl rfl rfl trivial ?_
          | refine x_fieldAddr rfl rfl rfl rfl trivial ?_
          | refine x_skip trivial rfl rfl rfl ?_
          | refine x_indexAddr1 rfl rfl rfl (by assumption) (by omega) (by omega) rfl trivial ?_
          | refine x_indexAddr rfl rfl rfl (by assumption) (by omega) (by omega) rfl trivial ?_
          | refine x_nil ?_
          | refine cw_seq ?_
          | refine nw_seq ?_
          | refine nw_block ?_
          | refine cw_block ?_
          | refine cw_skip ?_
          | refine cw_region ?_
          | refine cw_exit rfl ?_
          | refine cw_true rfl ?_
          | refine cw_false rfl ?_)
        rw [em]
        refine cw_ret1 rfl rfl ⟨rfl, ?_⟩
        rw [hk, h6, if_pos rfl]
        rfl

theorem arena_Live {K : Role} {b : Nat} {a : Ar} {H : Heap} (hS : Sa K H b a) (hl : a.cs.length ≤ 1000000) (hb : a.back.length ≤ 1000000) : Ret Try.prog 12 [ptr b 0] H (fun v H' => H = H' ∧ v = .int .i64 (liveA a)) := by
  obtain ⟨vc, vb, hM⟩ := hS
  have sC := hM.hC.sl
  rw [List.length_zipIdx] at sC
  have sB := hM.hV.sl
  have c1 : cel H b 1 = some vc := by rw [hM.hb.cel]; rfl
  have c2 : cel H b 2 = some vb := by rw [hM.hb.cel]; rfl
  refine ret_of Try.func12 rfl rfl rfl rfl ?_
  intro w0
  repeat (first
    | refine x_move rfl rfl rfl trivial ?_
    | refine x_assign rfl rfl rfl trivial ?_
    | refine x_add rfl rfl rfl (wrap_i64 (by omega) (by omega)) rfl trivial ?_
    | refine x_sub_ rfl rfl rfl (wrap_i64 (by omega) (by omega)) rfl trivial ?_
    | refine x_sub_ rfl rfl rfl (wrap_u32 (by omega) (by omega)) rfl trivial ?_
    | refine x_add rfl rfl rfl (wrap_u32 (by omega) (by omega)) rfl trivial ?_
    | refine x_peqn rfl rfl rfl rfl trivial ?_
    | refine x_pnen rfl rfl rfl rfl trivial ?_
    | refine x_mul rfl rfl rfl (wrap_i64 (by omega) (by omega)) rfl trivial ?_
    | refine x_ibin rfl rfl rfl rfl rfl trivial ?_
    | refine x_neg_ rfl rfl (wrap_i64 (by omega) (by omega)) rfl trivial ?_
    | refine x_len rfl rfl (by assumption) rfl trivial ?_
    | refine x_pick_t rfl rfl rfl rfl trivial ?_
    | refine x_pick_f rfl rfl rfl rfl trivial ?_
    | refine x_not rfl rfl rfl trivial ?_
    | refine x_beq rfl rfl rfl rfl trivial ?_
    | refine x_bne rfl rfl rfl rfl trivial ?_
    | refine x_extract rfl rfl rfl rfl trivial ?_
    | refine x_nilCheck rfl rfl rfl trivial ?_
    | refine x_fieldAddr rfl rfl rfl rfl trivial ?_
    | refine x_skip trivial rfl rfl rfl ?_
    | refine x_indexAddr1 rfl rfl rfl (by assumption) (by omega) (by omega) rfl trivial ?_
    | refine x_indexAddr rfl rfl rfl (by assumption) (by omega) (by omega) rfl trivial ?_
    | refine x_nil ?_
    | refine cw_seq ?_
    | refine nw_seq ?_
    | refine nw_block ?_
    | refine cw_block ?_
    | refine cw_skip ?_
    | refine cw_region ?_
    | refine cw_exit rfl ?_
    | refine cw_true rfl ?_
    | refine cw_false rfl ?_)
  refine cw_quiet mixed (by kernel_rfl) ?_
  repeat (first
    | refine x_move rfl rfl rfl trivial ?_
    | refine x_assign rfl rfl rfl trivial ?_
    | refine x_add rfl rfl rfl (wrap_i64 (by omega) (by omega)) rfl trivial ?_
    | refine x_sub_ rfl rfl rfl (wrap_i64 (by omega) (by omega)) rfl trivial ?_
    | refine x_sub_ rfl rfl rfl (wrap_u32 (by omega) (by omega)) rfl trivial ?_
    | refine x_add rfl rfl rfl (wrap_u32 (by omega) (by omega)) rfl trivial ?_
    | refine x_peqn rfl rfl rfl rfl trivial ?_
    | refine x_pnen rfl rfl rfl rfl trivial ?_
    | refine x_mul rfl rfl rfl (wrap_i64 (by omega) (by omega)) rfl trivial ?_
    | refine x_ibin rfl rfl rfl rfl rfl trivial ?_
    | refine x_neg_ rfl rfl (wrap_i64 (by omega) (by omega)) rfl trivial ?_
    | refine x_len rfl rfl (by assumption) rfl trivial ?_
    | refine x_pick_t rfl rfl rfl rfl trivial ?_
    | refine x_pick_f rfl rfl rfl rfl trivial ?_
    | refine x_not rfl rfl rfl trivial ?_
    | refine x_beq rfl rfl rfl rfl trivial ?_
    | refine x_bne rfl rfl rfl rfl trivial ?_
    | refine x_extract rfl rfl rfl rfl trivial ?_
    | refine x_nilCheck rfl rfl rfl trivial ?_
    | refine x_fieldAddr rfl rfl rfl rfl trivial ?_
    | refine x_skip trivial rfl rfl rfl ?_
    | refine x_indexAddr1 rfl rfl rfl (by assumption) (by omega) (by omega) rfl trivial ?_
    | refine x_indexAddr rfl rfl rfl (by assumption) (by omega) (by omega) rfl trivial ?_
    | refine x_nil ?_
    | refine cw_seq ?_
    | refine nw_seq ?_
    | refine nw_block ?_
    | refine cw_block ?_
    | refine cw_skip ?_
    | refine cw_region ?_
    | refine cw_exit rfl ?_
    | refine cw_true rfl ?_
    | refine cw_false rfl ?_)
  refine x_load rfl rfl (hpmt (c1)) rfl trivial ?_
  repeat (first
    | refine x_move rfl rfl rfl trivial ?_
    | refine x_assign rfl rfl rfl trivial ?_
    | refine x_add rfl rfl rfl (wrap_i64 (by omega) (by omega)) rfl trivial ?_
    | refine x_sub_ rfl rfl rfl (wrap_i64 (by omega) (by omega)) rfl trivial ?_
    | refine x_sub_ rfl rfl rfl (wrap_u32 (by omega) (by omega)) rfl trivial ?_
    | refine x_add rfl rfl rfl (wrap_u32 (by omega) (by omega)) rfl trivial ?_
    | refine x_peqn rfl rfl rfl rfl trivial ?_
    | refine x_pnen rfl rfl rfl rfl trivial ?_
    | refine x_mul rfl rfl rfl (wrap_i64 (by omega) (by omega)) rfl trivial ?_
    | refine x_ibin rfl rfl rfl rfl rfl trivial ?_
    | refine x_neg_ rfl rfl (wrap_i64 (by omega) (by omega)) rfl trivial ?_
    | refine x_len rfl rfl (by assumption) rfl trivial ?_
    | refine x_pick_t rfl rfl rfl rfl trivial ?_
    | refine x_pick_f rfl rfl rfl rfl trivial ?_
    | refine x_not rfl rfl rfl trivial ?_
    | refine x_beq rfl rfl rfl rfl trivial ?_
    | refine x_bne rfl rfl rfl rfl trivial ?_
    | refine x_extract rfl rfl rfl rfl trivial ?_
    | refine x_nilCheck rfl rfl rfl trivial ?_
    | refine x_fieldAddr rfl rfl rfl rfl trivial ?_
    | refine x_skip trivial rfl rfl rfl ?_
    | refine x_indexAddr1 rfl rfl rfl (by assumption) (by omega) (by omega) rfl trivial ?_
    | refine x_indexAddr rfl rfl rfl (by assumption) (by omega) (by omega) rfl trivial ?_
    | refine x_nil ?_
    | refine cw_seq ?_
    | refine nw_seq ?_
    | refine nw_block ?_
    | refine cw_block ?_
    | refine cw_skip ?_
    | refine cw_region ?_
    | refine cw_exit rfl ?_
    | refine cw_true rfl ?_
    | refine cw_false rfl ?_)
  refine x_load rfl rfl (hpmt (c2)) rfl trivial ?_
  repeat (first
    | refine x_move rfl rfl rfl trivial ?_
    | refine x_assign rfl rfl rfl trivial ?_
    | refine x_add rfl rfl rfl (wrap_i64 (by omega) (by omega)) rfl trivial ?_
    | refine x_sub_ rfl rfl rfl (wrap_i64 (by omega) (by omega)) rfl trivial ?_
    | refine x_sub_ rfl rfl rfl (wrap_u32 (by omega) (by omega)) rfl trivial ?_
    | refine x_add rfl rfl rfl (wrap_u32 (by omega) (by omega)) rfl trivial ?_
    | refine x_peqn rfl rfl rfl rfl trivial ?_
    | refine x_pnen rfl rfl rfl rfl trivial ?_
    | refine x_mul rfl rfl rfl (wrap_i64 (by omega) (by omega)) rfl trivial ?_
    | refine x_ibin rfl rfl rfl rfl rfl trivial ?_
    | refine x_neg_ rfl rfl (wrap_i64 (by omega) (by omega)) rfl trivial ?_
    | refine x_len rfl rfl (by assumption) rfl trivial ?_
    | refine x_pick_t rfl rfl rfl rfl trivial ?_
    | refine x_pick_f rfl rfl rfl rfl trivial ?_
    | refine x_not rfl rfl rfl trivial ?_
    | refine x_beq rfl rfl rfl rfl trivial ?_
    | refine x_bne rfl rfl rfl rfl trivial ?_
    | refine x_extract rfl rfl rfl rfl trivial ?_
    | refine x_nilCheck rfl rfl rfl trivial ?_
    | refine x_fieldAddr rfl rfl rfl rfl trivial ?_
    | refine x_skip trivial rfl rfl rfl ?_
    | refine x_indexAddr1 rfl rfl rfl (by assumption) (by omega) (by omega) rfl trivial ?_
    | refine x_indexAddr rfl rfl rfl (by assumption) (by omega) (by omega) rfl trivial ?_
    | refine x_nil ?_
    | refine cw_seq ?_
    | refine nw_seq ?_
    | refine nw_block ?_
    | refine cw_block ?_
    | refine cw_skip ?_
    | refine cw_region ?_
    | refine cw_exit rfl ?_
    | refine cw_true rfl ?_
    | refine cw_false rfl ?_)
  exact cw_ret1 rfl rfl ⟨rfl, rfl⟩
theorem arena_Free {K : Role} {b : Nat} {a : Ar} {H : Heap} (hS : Sa K H b a) (hw : a.Wf) (hl : a.cs.length ≤ 1000000) (hb : a.back.length ≤ 1000000) : Ret Try.prog 17 [ptr b 0] H (fun v H' => H = H' ∧ v = .int .i64 (a.most - liveA a)) := by
  have hS0 := hS
  obtain ⟨vc, vb, hM⟩ := hS
  have c0 : cel H b 0 = some (.int .i64 a.most) := by rw [hM.hb.cel]; rfl
  have h1 := hw.live.1
  have h2 := hw.le
  have h3 := hw.most
  refine ret_of Try.func17 rfl rfl rfl rfl ?_
  intro w0
  repeat (first
    | refine x_move rfl rfl rfl trivial ?_
    | refine x_assign rfl rfl rfl trivial ?_
    | refine x_add rfl rfl rfl (wrap_i64 (by omega) (by omega)) rfl trivial ?_
    | refine x_sub_ rfl rfl rfl (wrap_i64 (by omega) (by omega)) rfl trivial ?_
    | refine x_sub_ rfl rfl rfl (wrap_u32 (by omega) (by omega)) rfl trivial ?_
    | refine x_add rfl rfl rfl (wrap_u32 (by omega) (by omega)) rfl trivial ?_
    | refine x_peqn rfl rfl rfl rfl trivial ?_
    | refine x_pnen rfl rfl rfl rfl trivial ?_
    | refine x_mul rfl rfl rfl (wrap_i64 (by omega) (by omega)) rfl trivial ?_
    | refine x_ibin rfl rfl rfl rfl rfl trivial ?_
    | refine x_neg_ rfl rfl (wrap_i64 (by omega) (by omega)) rfl trivial ?_
    | refine x_len rfl rfl (by assumption) rfl trivial ?_
    | refine x_pick_t rfl rfl rfl rfl trivial ?_
    | refine x_pick_f rfl rfl rfl rfl trivial ?_
    | refine x_not rfl rfl rfl trivial ?_
    | refine x_beq rfl rfl rfl rfl trivial ?_
    | refine x_bne rfl rfl rfl rfl trivial ?_
    | refine x_extract rfl rfl rfl rfl trivial ?_
    | refine x_nilCheck rfl rfl rfl trivial ?_
    | refine x_fieldAddr rfl rfl rfl rfl trivial ?_
    | refine x_skip trivial rfl rfl rfl ?_
    | refine x_indexAddr1 rfl rfl rfl (by assumption) (by omega) (by omega) rfl trivial ?_
    | refine x_indexAddr rfl rfl rfl (by assumption) (by omega) (by omega) rfl trivial ?_
    | refine x_nil ?_
    | refine cw_seq ?_
    | refine nw_seq ?_
    | refine nw_block ?_
    | refine cw_block ?_
    | refine cw_skip ?_
    | refine cw_region ?_
    | refine cw_exit rfl ?_
    | refine cw_true rfl ?_
    | refine cw_false rfl ?_)
  refine cw_quiet mixed (by kernel_rfl) ?_
  repeat (first
    | refine x_move rfl rfl rfl trivial ?_
    | refine x_assign rfl rfl rfl trivial ?_
    | refine x_add rfl rfl rfl (wrap_i64 (by omega) (by omega)) rfl trivial ?_
    | refine x_sub_ rfl rfl rfl (wrap_i64 (by omega) (by omega)) rfl trivial ?_
    | refine x_sub_ rfl rfl rfl (wrap_u32 (by omega) (by omega)) rfl trivial ?_
    | refine x_add rfl rfl rfl (wrap_u32 (by omega) (by omega)) rfl trivial ?_
    | refine x_peqn rfl rfl rfl rfl trivial ?_
    | refine x_pnen rfl rfl rfl rfl trivial ?_
    | refine x_mul rfl rfl rfl (wrap_i64 (by omega) (by omega)) rfl trivial ?_
    | refine x_ibin rfl rfl rfl rfl rfl trivial ?_
    | refine x_neg_ rfl rfl (wrap_i64 (by omega) (by omega)) rfl trivial ?_
    | refine x_len rfl rfl (by assumption) rfl trivial ?_
    | refine x_pick_t rfl rfl rfl rfl trivial ?_
    | refine x_pick_f rfl rfl rfl rfl trivial ?_
    | refine x_not rfl rfl rfl trivial ?_
    | refine x_beq rfl rfl rfl rfl trivial ?_
    | refine x_bne rfl rfl rfl rfl trivial ?_
    | refine x_extract rfl rfl rfl rfl trivial ?_
    | refine x_nilCheck rfl rfl rfl trivial ?_
    | refine x_fieldAddr rfl rfl rfl rfl trivial ?_
    | refine x_skip trivial rfl rfl rfl ?_
    | refine x_indexAddr1 rfl rfl rfl (by assumption) (by omega) (by omega) rfl trivial ?_
    | refine x_indexAddr rfl rfl rfl (by assumption) (by omega) (by omega) rfl trivial ?_
    | refine x_nil ?_
    | refine cw_seq ?_
    | refine nw_seq ?_
    | refine nw_block ?_
    | refine cw_block ?_
    | refine cw_skip ?_
    | refine cw_region ?_
    | refine cw_exit rfl ?_
    | refine cw_true rfl ?_
    | refine cw_false rfl ?_)
  refine x_load rfl rfl (hpmt (c0)) rfl trivial ?_
  repeat (first
    | refine x_move rfl rfl rfl trivial ?_
    | refine x_assign rfl rfl rfl trivial ?_
    | refine x_add rfl rfl rfl (wrap_i64 (by omega) (by omega)) rfl trivial ?_
    | refine x_sub_ rfl rfl rfl (wrap_i64 (by omega) (by omega)) rfl trivial ?_
    | refine x_sub_ rfl rfl rfl (wrap_u32 (by omega) (by omega)) rfl trivial ?_
    | refine x_add rfl rfl rfl (wrap_u32 (by omega) (by omega)) rfl trivial ?_
    | refine x_peqn rfl rfl rfl rfl trivial ?_
    | refine x_pnen rfl rfl rfl rfl trivial ?_
    | refine x_mul rfl rfl rfl (wrap_i64 (by omega) (by omega)) rfl trivial ?_
    | refine x_ibin rfl rfl rfl rfl rfl trivial ?_
    | refine x_neg_ rfl rfl (wrap_i64 (by omega) (by omega)) rfl trivial ?_
    | refine x_len rfl rfl (by assumption) rfl trivial ?_
    | refine x_pick_t rfl rfl rfl rfl trivial ?_
    | refine x_pick_f rfl rfl rfl rfl trivial ?_
    | refine x_not rfl rfl rfl trivial ?_
    | refine x_beq rfl rfl rfl rfl trivial ?_
    | refine x_bne rfl rfl rfl rfl trivial ?_
    | refine x_extract rfl rfl rfl rfl trivial ?_
    | refine x_nilCheck rfl rfl rfl trivial ?_
    | refine x_fieldAddr rfl rfl rfl rfl trivial ?_
    | refine x_skip trivial rfl rfl rfl ?_
    | refine x_indexAddr1 rfl rfl rfl (by assumption) (by omega) (by omega) rfl trivial ?_
    | refine x_indexAddr rfl rfl rfl (by assumption) (by omega) (by omega) rfl trivial ?_
    | refine x_nil ?_
    | refine cw_seq ?_
    | refine nw_seq ?_
    | refine nw_block ?_
    | refine cw_block ?_
    | refine cw_skip ?_
    | refine cw_region ?_
    | refine cw_exit rfl ?_
    | refine cw_true rfl ?_
    | refine cw_false rfl ?_)
  refine x_callq rfl rfl rfl ((arena_Live hS0 hl hb).mono fun _ _ h => ⟨h.1.symm, h.2⟩) ?_
  repeat (first
    | refine x_move rfl rfl rfl trivial ?_
    | refine x_assign rfl rfl rfl trivial ?_
    | refine x_add rfl rfl rfl (wrap_i64 (by omega) (by omega)) rfl trivial ?_
    | refine x_sub_ rfl rfl rfl (wrap_i64 (by omega) (by omega)) rfl trivial ?_
    | refine x_sub_ rfl rfl rfl (wrap_u32 (by omega) (by omega)) rfl trivial ?_
    | refine x_add rfl rfl rfl (wrap_u32 (by omega) (by omega)) rfl trivial ?_
    | refine x_peqn rfl rfl rfl rfl trivial ?_
    | refine x_pnen rfl rfl rfl rfl trivial ?_
    | refine x_mul rfl rfl rfl (wrap_i64 (by omega) (by omega)) rfl trivial ?_
    | refine x_ibin rfl rfl rfl rfl rfl trivial ?_
    | refine x_neg_ rfl rfl (wrap_i64 (by omega) (by omega)) rfl trivial ?_
    | refine x_len rfl rfl (by assumption) rfl trivial ?_
    | refine x_pick_t rfl rfl rfl rfl trivial ?_
    | refine x_pick_f rfl rfl rfl rfl trivial ?_
    | refine x_not rfl rfl rfl trivial ?_
    | refine x_beq rfl rfl rfl rfl trivial ?_
    | refine x_bne rfl rfl rfl rfl trivial ?_
    | refine x_extract rfl rfl rfl rfl trivial ?_
    | refine x_nilCheck rfl rfl rfl trivial ?_
    | refine x_fieldAddr rfl rfl rfl rfl trivial ?_
    | refine x_skip trivial rfl rfl rfl ?_
    | refine x_indexAddr1 rfl rfl rfl (by assumption) (by omega) (by omega) rfl trivial ?_
    | refine x_indexAddr rfl rfl rfl (by assumption) (by omega) (by omega) rfl trivial ?_
    | refine x_nil ?_
    | refine cw_seq ?_
    | refine nw_seq ?_
    | refine nw_block ?_
    | refine cw_block ?_
    | refine cw_skip ?_
    | refine cw_region ?_
    | refine cw_exit rfl ?_
    | refine cw_true rfl ?_
    | refine cw_false rfl ?_)
  exact cw_ret1 rfl rfl ⟨rfl, rfl⟩
theorem arena_Live0 (H : Heap) : Ret Try.prog 12 [.pointer none] H (fun v H' => H = H' ∧ v = .int .i64 0) := by
  refine ret_of Try.func12 rfl rfl rfl rfl ?_
  intro w0
  repeat (first
    | refine x_move rfl rfl rfl trivial ?_
    | refine x_assign rfl rfl rfl trivial ?_
    | refine x_add rfl rfl rfl (wrap_i64 (by omega) (by omega)) rfl trivial ?_
    | refine x_sub_ rfl rfl rfl (wrap_i64 (by omega) (by omega)) rfl trivial ?_
    | refine x_sub_ rfl rfl rfl (wrap_u32 (by omega) (by omega)) rfl trivial ?_
    | refine x_add rfl rfl rfl (wrap_u32 (by omega) (by omega)) rfl trivial ?_
    | refine x_peqn rfl rfl rfl rfl trivial ?_
    | refine x_pnen rfl rfl rfl rfl trivial ?_
    | refine x_mul rfl rfl rfl (wrap_i64 (by omega) (by omega)) rfl trivial ?_
    | refine x_ibin rfl rfl rfl rfl rfl trivial ?_
    | refine x_neg_ rfl rfl (wrap_i64 (by omega) (by omega)) rfl trivial ?_
    | refine x_len rfl rfl (by assumption) rfl trivial ?_
    | refine x_pick_t rfl rfl rfl rfl trivial ?_
    | refine x_pick_f rfl rfl rfl rfl trivial ?_
    | refine x_not rfl rfl rfl trivial ?_
    | refine x_beq rfl rfl rfl rfl trivial ?_
    | refine x_bne rfl rfl rfl rfl trivial ?_
    | refine x_extract rfl rfl rfl rfl trivial ?_
    | refine x_nilCheck rfl rfl rfl trivial ?_
    | refine x_fieldAddr rfl rfl rfl rfl trivial ?_
    | refine x_skip trivial rfl rfl rfl ?_
    | refine x_indexAddr1 rfl rfl rfl (by assumption) (by omega) (by omega) rfl trivial ?_
    | refine x_indexAddr rfl rfl rfl (by assumption) (by omega) (by omega) rfl trivial ?_
    | refine x_nil ?_
    | refine cw_seq ?_
    | refine nw_seq ?_
    | refine nw_block ?_
    | refine cw_block ?_
    | refine cw_skip ?_
    | refine cw_region ?_
    | refine cw_exit rfl ?_
    | refine cw_true rfl ?_
    | refine cw_false rfl ?_)
  exact cw_ret1 rfl rfl ⟨rfl, rfl⟩
theorem arena_Take0 (u : Value) (H : Heap) : Ret Try.prog 10 [.pointer none, u] H (fun v H' => H = H' ∧ v = .tuple #[.int .u32 0, .int .i64 1]) := by
  refine ret_of Try.func10 rfl rfl rfl rfl ?_
  intro w0
  repeat (first
    | refine x_move rfl rfl rfl trivial ?_
    | refine x_assign rfl rfl rfl trivial ?_
    | refine x_add rfl rfl rfl (wrap_i64 (by omega) (by omega)) rfl trivial ?_
    | refine x_sub_ rfl rfl rfl (wrap_i64 (by omega) (by omega)) rfl trivial ?_
    | refine x_sub_ rfl rfl rfl (wrap_u32 (by omega) (by omega)) rfl trivial ?_
    | refine x_add rfl rfl rfl (wrap_u32 (by omega) (by omega)) rfl trivial ?_
    | refine x_peqn rfl rfl rfl rfl trivial ?_
    | refine x_pnen rfl rfl rfl rfl trivial ?_
    | refine x_mul rfl rfl rfl (wrap_i64 (by omega) (by omega)) rfl trivial ?_
    | refine x_ibin rfl rfl rfl rfl rfl trivial ?_
    | refine x_neg_ rfl rfl (wrap_i64 (by omega) (by omega)) rfl trivial ?_
    | refine x_len rfl rfl (by assumption) rfl trivial ?_
    | refine x_pick_t rfl rfl rfl rfl trivial ?_
    | refine x_pick_f rfl rfl rfl rfl trivial ?_
    | refine x_not rfl rfl rfl trivial ?_
    | refine x_beq rfl rfl rfl rfl trivial ?_
    | refine x_bne rfl rfl rfl rfl trivial ?_
    | refine x_extract rfl rfl rfl rfl trivial ?_
    | refine x_nilCheck rfl rfl rfl trivial ?_
    | refine x_fieldAddr rfl rfl rfl rfl trivial ?_
    | refine x_skip trivial rfl rfl rfl ?_
    | refine x_indexAddr1 rfl rfl rfl (by assumption) (by omega) (by omega) rfl trivial ?_
    | refine x_indexAddr rfl rfl rfl (by assumption) (by omega) (by omega) rfl trivial ?_
    | refine x_nil ?_
    | refine cw_seq ?_
    | refine nw_seq ?_
    | refine nw_block ?_
    | refine cw_block ?_
    | refine cw_skip ?_
    | refine cw_region ?_
    | refine cw_exit rfl ?_
    | refine cw_true rfl ?_
    | refine cw_false rfl ?_)
  exact cw_ret2 rfl rfl rfl ⟨rfl, rfl⟩
theorem arena_Give0 (h : Int) (H : Heap) : Ret Try.prog 11 [.pointer none, .int .u32 h] H (fun v H' => H = H' ∧ v = .int .i64 1) := by
  refine ret_of Try.func11 rfl rfl rfl rfl ?_
  intro w0
  repeat (first
    | refine x_move rfl rfl rfl trivial ?_
    | refine x_assign rfl rfl rfl trivial ?_
    | refine x_add rfl rfl rfl (wrap_i64 (by omega) (by omega)) rfl trivial ?_
    | refine x_sub_ rfl rfl rfl (wrap_i64 (by omega) (by omega)) rfl trivial ?_
    | refine x_sub_ rfl rfl rfl (wrap_u32 (by omega) (by omega)) rfl trivial ?_
    | refine x_add rfl rfl rfl (wrap_u32 (by omega) (by omega)) rfl trivial ?_
    | refine x_peqn rfl rfl rfl rfl trivial ?_
    | refine x_pnen rfl rfl rfl rfl trivial ?_
    | refine x_mul rfl rfl rfl (wrap_i64 (by omega) (by omega)) rfl trivial ?_
    | refine x_ibin rfl rfl rfl rfl rfl trivial ?_
    | refine x_neg_ rfl rfl (wrap_i64 (by omega) (by omega)) rfl trivial ?_
    | refine x_len rfl rfl (by assumption) rfl trivial ?_
    | refine x_pick_t rfl rfl rfl rfl trivial ?_
    | refine x_pick_f rfl rfl rfl rfl trivial ?_
    | refine x_not rfl rfl rfl trivial ?_
    | refine x_beq rfl rfl rfl rfl trivial ?_
    | refine x_bne rfl rfl rfl rfl trivial ?_
    | refine x_extract rfl rfl rfl rfl trivial ?_
    | refine x_nilCheck rfl rfl rfl trivial ?_
    | refine x_fieldAddr rfl rfl rfl rfl trivial ?_
    | refine x_skip trivial rfl rfl rfl ?_
    | refine x_indexAddr1 rfl rfl rfl (by assumption) (by omega) (by omega) rfl trivial ?_
    | refine x_indexAddr rfl rfl rfl (by assumption) (by omega) (by omega) rfl trivial ?_
    | refine x_nil ?_
    | refine cw_seq ?_
    | refine nw_seq ?_
    | refine nw_block ?_
    | refine cw_block ?_
    | refine cw_skip ?_
    | refine cw_region ?_
    | refine cw_exit rfl ?_
    | refine cw_true rfl ?_
    | refine cw_false rfl ?_)
  exact cw_ret1 rfl rfl ⟨rfl, rfl⟩
theorem arena_Handles0 (H : Heap) : Ret Try.prog 18 [.pointer none] H (fun v H' => H = H' ∧ v = .slice none 0 0) := by
  refine ret_of Try.func18 rfl rfl rfl rfl ?_
  intro w0
  repeat (first
    | refine x_move rfl rfl rfl trivial ?_
    | refine x_assign rfl rfl rfl trivial ?_
    | refine x_add rfl rfl rfl (wrap_i64 (by omega) (by omega)) rfl trivial ?_
    | refine x_sub_ rfl rfl rfl (wrap_i64 (by omega) (by omega)) rfl trivial ?_
    | refine x_sub_ rfl rfl rfl (wrap_u32 (by omega) (by omega)) rfl trivial ?_
    | refine x_add rfl rfl rfl (wrap_u32 (by omega) (by omega)) rfl trivial ?_
    | refine x_peqn rfl rfl rfl rfl trivial ?_
    | refine x_pnen rfl rfl rfl rfl trivial ?_
    | refine x_mul rfl rfl rfl (wrap_i64 (by omega) (by omega)) rfl trivial ?_
    | refine x_ibin rfl rfl rfl rfl rfl trivial ?_
    | refine x_neg_ rfl rfl (wrap_i64 (by omega) (by omega)) rfl trivial ?_
    | refine x_len rfl rfl (by assumption) rfl trivial ?_
    | refine x_pick_t rfl rfl rfl rfl trivial ?_
    | refine x_pick_f rfl rfl rfl rfl trivial ?_
    | refine x_not rfl rfl rfl trivial ?_
    | refine x_beq rfl rfl rfl rfl trivial ?_
    | refine x_bne rfl rfl rfl rfl trivial ?_
    | refine x_extract rfl rfl rfl rfl trivial ?_
    | refine x_nilCheck rfl rfl rfl trivial ?_
    | refine x_fieldAddr rfl rfl rfl rfl trivial ?_
    | refine x_skip trivial rfl rfl rfl ?_
    | refine x_indexAddr1 rfl rfl rfl (by assumption) (by omega) (by omega) rfl trivial ?_
    | refine x_indexAddr rfl rfl rfl (by assumption) (by omega) (by omega) rfl trivial ?_
    | refine x_nil ?_
    | refine cw_seq ?_
    | refine nw_seq ?_
    | refine nw_block ?_
    | refine cw_block ?_
    | refine cw_skip ?_
    | refine cw_region ?_
    | refine cw_exit rfl ?_
    | refine cw_true rfl ?_
    | refine cw_false rfl ?_)
  exact cw_ret1 rfl rfl ⟨rfl, rfl⟩
theorem arena_Size {K : Role} {b h : Nat} {a : Ar} {H : Heap} (hS : Sa K H b a) (hh : h < 4294967296) (hl : a.cs.length ≤ 1000000) :
    Ret Try.prog 14 [ptr b 0, .int .u32 (h : Nat)] H (fun v H' => H = H' ∧ v = .int .i64 (sizeA a h : Nat)) := by
  obtain ⟨vc, vb, hM⟩ := hS
  refine ret_of Try.func14 rfl rfl rfl rfl ?_
  intro w0
  repeat (first
    | refine x_move rfl rfl rfl trivial ?_
    | refine x_assign rfl rfl rfl trivial ?_
    | refine x_add rfl rfl rfl (wrap_i64 (by omega) (by omega)) rfl trivial ?_
    | refine x_sub_ rfl rfl rfl (wrap_i64 (by omega) (by omega)) rfl trivial ?_
    | refine x_sub_ rfl rfl rfl (wrap_u32 (by omega) (by omega)) rfl trivial ?_
    | refine x_add rfl rfl rfl (wrap_u32 (by omega) (by omega)) rfl trivial ?_
    | refine x_peqn rfl rfl rfl rfl trivial ?_
    | refine x_pnen rfl rfl rfl rfl trivial ?_
    | refine x_mul rfl rfl rfl (wrap_i64 (by omega) (by omega)) rfl trivial ?_
    | refine x_ibin rfl rfl rfl rfl rfl trivial ?_
    | refine x_neg_ rfl rfl (wrap_i64 (by omega) (by omega)) rfl trivial ?_
    | refine x_len rfl rfl (by assumption) rfl trivial ?_
    | refine x_pick_t rfl rfl rfl rfl trivial ?_
    | refine x_pick_f rfl rfl rfl rfl trivial ?_
    | refine x_not rfl rfl rfl trivial ?_
    | refine x_beq rfl rfl rfl rfl trivial ?_
    | refine x_bne rfl rfl rfl rfl trivial ?_
    | refine x_extract rfl rfl rfl rfl trivial ?_
    | refine x_nilCheck rfl rfl rfl trivial ?_
    | refine x_fieldAddr rfl rfl rfl rfl trivial ?_
    | refine x_skip trivial rfl rfl rfl ?_
    | refine x_indexAddr1 rfl rfl rfl (by assumption) (by omega) (by omega) rfl trivial ?_
    | refine x_indexAddr rfl rfl rfl (by assumption) (by omega) (by omega) rfl trivial ?_
    | refine x_nil ?_
    | refine cw_seq ?_
    | refine nw_seq ?_
    | refine nw_block ?_
    | refine cw_block ?_
    | refine cw_skip ?_
    | refine cw_region ?_
    | refine cw_exit rfl ?_
    | refine cw_true rfl ?_
    | refine cw_false rfl ?_)
  refine x_call rfl rfl rfl trivial (arena_at hM hh hl) ?_
  rintro _ _ ⟨rfl, rfl⟩
  refine ⟨trivial, ?_⟩
  cases h0 : hasA a h with
  | false =>
    have e : sizeA a h = 0 := by unfold sizeA; rw [h0]; rfl
    rw [e]
    simp only [Bool.false_eq_true, if_false]
    repeat (first
      | refine x_move rfl rfl rfl trivial ?_
      | refine x_assign rfl rfl rfl trivial ?_
      | refine x_add rfl rfl rfl (wrap_i64 (by omega) (by omega)) rfl trivial ?_
      | refine x_sub_ rfl rfl rfl (wrap_i64 (by omega) (by omega)) rfl trivial ?_
      | refine x_sub_ rfl rfl rfl (wrap_u32 (by omega) (by omega)) rfl trivial ?_
      | refine x_add rfl rfl rfl (wrap_u32 (by omega) (by omega)) rfl trivial ?_
      | refine x_peqn rfl rfl rfl rfl trivial ?_
      | refine x_pnen rfl rfl rfl rfl trivial ?_
      | refine x_mul rfl rfl rfl (wrap_i64 (by omega) (by omega)) rfl trivial ?_
      | refine x_ibin rfl rfl rfl rfl rfl trivial ?_
      | refine x_neg_ rfl rfl (wrap_i64 (by omega) (by omega)) rfl trivial ?_
      | refine x_len rfl rfl (by assumption) rfl trivial ?_
      | refine x_pick_t rfl rfl rfl rfl trivial ?_
      | refine x_pick_f rfl rfl rfl rfl trivial ?_
      | refine x_not rfl rfl rfl trivial ?_
      | refine x_beq rfl rfl rfl rfl trivial ?_
      | refine x_bne rfl rfl rfl rfl trivial ?_
      | refine x_extract rfl rfl rfl rfl trivial ?_
      | refine x_nilCheck rfl rfl rfl trivial ?_
      | refine x_fieldAddr rfl rfl rfl rfl trivial ?_
      | refine x_skip trivial rfl rfl rfl ?_
      | refine x_indexAddr1 rfl rfl rfl (by assumption) (by omega) (by omega) rfl trivial ?_
      | refine x_indexAddr rfl rfl rfl (by assumption) (by omega) (by omega) rfl trivial ?_
      | refine x_nil ?_
      | refine cw_seq ?_
      | refine nw_seq ?_
      | refine nw_block ?_
      | refine cw_block ?_
      | refine cw_skip ?_
      | refine cw_region ?_
      | refine cw_exit rfl ?_
      | refine cw_true rfl ?_
      | refine cw_false rfl ?_)
    exact cw_ret1 rfl rfl ⟨rfl, rfl⟩
  | true =>
    obtain ⟨g1, ws, g2⟩ := hasA_iff.1 h0
    obtain ⟨w, ho, _, hc0, _⟩ := hM.at_ g2
    have e : sizeA a h = ws.length := by unfold sizeA wordsA; rw [h0, g2]; rfl
    have sW := ho.sl
    simp only at sW
    rw [e]
    simp only [if_true]
    repeat (first
      | refine x_move rfl rfl rfl trivial ?_
      | refine x_assign rfl rfl rfl trivial ?_
      | refine x_add rfl rfl rfl (wrap_i64 (by omega) (by omega)) rfl trivial ?_
      | refine x_sub_ rfl rfl rfl (wrap_i64 (by omega) (by omega)) rfl trivial ?_
      | refine x_sub_ rfl rfl rfl (wrap_u32 (by omega) (by omega)) rfl trivial ?_
      | refine x_add rfl rfl rfl (wrap_u32 (by omega) (by omega)) rfl trivial ?_
      | refine x_peqn rfl rfl rfl rfl trivial ?_
      | refine x_pnen rfl rfl rfl rfl trivial ?_
      | refine x_mul rfl rfl rfl (wrap_i64 (by omega) (by omega)) rfl trivial ?_
      | refine x_ibin rfl rfl rfl rfl rfl trivial ?_
      | refine x_neg_ rfl rfl (wrap_i64 (by omega) (by omega)) rfl trivial ?_
      | refine x_len rfl rfl (by assumption) rfl trivial ?_
      | refine x_pick_t rfl rfl rfl rfl trivial ?_
      | refine x_pick_f rfl rfl rfl rfl trivial ?_
      | refine x_not rfl rfl rfl trivial ?_
      | refine x_beq rfl rfl rfl rfl trivial ?_
      | refine x_bne rfl rfl rfl rfl trivial ?_
      | refine x_extract rfl rfl rfl rfl trivial ?_
      | refine x_nilCheck rfl rfl rfl trivial ?_
      | refine x_fieldAddr rfl rfl rfl rfl trivial ?_
      | refine x_skip trivial rfl rfl rfl ?_
      | refine x_indexAddr1 rfl rfl rfl (by assumption) (by omega) (by omega) rfl trivial ?_
      | refine x_indexAddr rfl rfl rfl (by assumption) (by omega) (by omega) rfl trivial ?_
      | refine x_nil ?_
      | refine cw_seq ?_
      | refine nw_seq ?_
      | refine nw_block ?_
      | refine cw_block ?_
      | refine cw_skip ?_
      | refine cw_region ?_
      | refine cw_exit rfl ?_
      | refine cw_true rfl ?_
      | refine cw_false rfl ?_)
    refine x_load rfl rfl (hpmt (hc0)) rfl trivial ?_
    repeat (first
      | refine x_move rfl rfl rfl trivial ?_
      | refine x_assign rfl rfl rfl trivial ?_
      | refine x_add rfl rfl rfl (wrap_i64 (by omega) (by omega)) rfl trivial ?_
      | refine x_sub_ rfl rfl rfl (wrap_i64 (by omega) (by omega)) rfl trivial ?_
      | refine x_sub_ rfl rfl rfl (wrap_u32 (by omega) (by omega)) rfl trivial ?_
      | refine x_add rfl rfl rfl (wrap_u32 (by omega) (by omega)) rfl trivial ?_
      | refine x_peqn rfl rfl rfl rfl trivial ?_
      | refine x_pnen rfl rfl rfl rfl trivial ?_
      | refine x_mul rfl rfl rfl (wrap_i64 (by omega) (by omega)) rfl trivial ?_
      | refine x_ibin rfl rfl rfl rfl rfl trivial ?_
      | refine x_neg_ rfl rfl (wrap_i64 (by omega) (by omega)) rfl trivial ?_
      | refine x_len rfl rfl (by assumption) rfl trivial ?_
      | refine x_pick_t rfl rfl rfl rfl trivial ?_
      | refine x_pick_f rfl rfl rfl rfl trivial ?_
      | refine x_not rfl rfl rfl trivial ?_
      | refine x_beq rfl rfl rfl rfl trivial ?_
      | refine x_bne rfl rfl rfl rfl trivial ?_
      | refine x_extract rfl rfl rfl rfl trivial ?_
      | refine x_nilCheck rfl rfl rfl trivial ?_
      | refine x_fieldAddr rfl rfl rfl rfl trivial ?_
      | refine x_skip trivial rfl rfl rfl ?_
      | refine x_indexAddr1 rfl rfl rfl (by assumption) (by omega) (by omega) rfl trivial ?_
      | refine x_indexAddr rfl rfl rfl (by assumption) (by omega) (by omega) rfl trivial ?_
      | refine x_nil ?_
      | refine cw_seq ?_
      | refine nw_seq ?_
      | refine nw_block ?_
      | refine cw_block ?_
      | refine cw_skip ?_
      | refine cw_region ?_
      | refine cw_exit rfl ?_
      | refine cw_true rfl ?_
      | refine cw_false rfl ?_)
    exact cw_ret1 rfl rfl ⟨rfl, rfl⟩
theorem arena_word {K : Role} {b h : Nat} {i : Int} {a : Ar} {vc vb : Value} {H : Heap} (hM : Ma K H b vc vb [.int .i64 a.most, vc, vb] a.cs a.back) (hh : h < 4294967296) (hl : a.cs.length ≤ 1000000) :
    Ret Try.prog 30 [ptr b 0, .int .u32 (h : Nat), .int .i64 i] H (fun v H' => H = H' ∧ ((errA a h i ≠ 0 ∧ v = .tuple #[.pointer none, .int .i64 (errA a h i)]) ∨
      (errA a h i = 0 ∧ ∃ w, cel H (sb vc) (so vc + (h - 1) * 2) = some w ∧ v = .tuple #[ptr (sb w) (so w + i.toNat), .int .i64 0]))) := by
  refine ret_of Try.func30 rfl rfl rfl rfl ?_
  intro w0
  repeat (first
    | refine x_move rfl rfl rfl trivial ?_
    | refine x_assign rfl rfl rfl trivial ?_
    | refine x_add rfl rfl rfl (wrap_i64 (by omega) (by omega)) rfl trivial ?_
    | refine x_sub_ rfl rfl rfl (wrap_i64 (by omega) (by omega)) rfl trivial ?_
    | refine x_sub_ rfl rfl rfl (wrap_u32 (by omega) (by omega)) rfl trivial ?_
    | refine x_add rfl rfl rfl (wrap_u32 (by omega) (by omega)) rfl trivial ?_
    | refine x_peqn rfl rfl rfl rfl trivial ?_
    | refine x_pnen rfl rfl rfl rfl trivial ?_
    | refine x_mul rfl rfl rfl (wrap_i64 (by omega) (by omega)) rfl trivial ?_
    | refine x_ibin rfl rfl rfl rfl rfl trivial ?_
    | refine x_neg_ rfl rfl (wrap_i64 (by omega) (by omega)) rfl trivial ?_
    | refine x_len rfl rfl (by assumption) rfl trivial ?_
    | refine x_pick_t rfl rfl rfl rfl trivial ?_
    | refine x_pick_f rfl rfl rfl rfl trivial ?_
    | refine x_not rfl rfl rfl trivial ?_
    | refine x_beq rfl rfl rfl rfl trivial ?_
    | refine x_bne rfl rfl rfl rfl trivial ?_
    | refine x_extract rfl rfl rfl rfl trivial ?_
    | refine x_nilCheck rfl rfl rfl trivial ?_
    | refine x_fieldAddr rfl rfl rfl rfl trivial ?_
    | refine x_skip trivial rfl rfl rfl ?_
    | refine x_indexAddr1 rfl rfl rfl (by assumption) (by omega) (by omega) rfl trivial ?_
    | refine x_indexAddr rfl rfl rfl (by assumption) (by omega) (by omega) rfl trivial ?_
    | refine x_nil ?_
    | refine cw_seq ?_
    | refine nw_seq ?_
    | refine nw_block ?_
    | refine cw_block ?_
    | refine cw_skip ?_
    | refine cw_region ?_
    | refine cw_exit rfl ?_
    | refine cw_true rfl ?_
    | refine cw_false rfl ?_)
  refine x_call rfl rfl rfl trivial (arena_at hM hh hl) ?_
  rintro _ _ ⟨rfl, rfl⟩
  refine ⟨trivial, ?_⟩
  cases h0 : hasA a h with
  | false =>
    have e : errA a h i = 5 := by unfold errA; rw [if_pos h0]
    rw [e]
    simp only [Bool.false_eq_true, if_false]
    repeat (first
      | refine x_move rfl rfl rfl trivial ?_
      | refine x_assign rfl rfl rfl trivial ?_
      | refine x_add rfl rfl rfl (wrap_i64 (by omega) (by omega)) rfl trivial ?_
      | refine x_sub_ rfl rfl rfl (wrap_i64 (by omega) (by omega)) rfl trivial ?_
      | refine x_sub_ rfl rfl rfl (wrap_u32 (by omega) (by omega)) rfl trivial ?_
      | refine x_add rfl rfl rfl (wrap_u32 (by omega) (by omega)) rfl trivial ?_
      | refine x_peqn rfl rfl rfl rfl trivial ?_
      | refine x_pnen rfl rfl rfl rfl trivial ?_
      | refine x_mul rfl rfl rfl (wrap_i64 (by omega) (by omega)) rfl trivial ?_
      | refine x_ibin rfl rfl rfl rfl rfl trivial ?_
      | refine x_neg_ rfl rfl (wrap_i64 (by omega) (by omega)) rfl trivial ?_
      | refine x_len rfl rfl (by assumption) rfl trivial ?_
      | refine x_pick_t rfl rfl rfl rfl trivial ?_
      | refine x_pick_f rfl rfl rfl rfl trivial ?_
      | refine x_not rfl rfl rfl trivial ?_
      | refine x_beq rfl rfl rfl rfl trivial ?_
      | refine x_bne rfl rfl rfl rfl trivial ?_
      | refine x_extract rfl rfl rfl rfl trivial ?_
      | refine x_nilCheck rfl rfl rfl trivial ?_
      | refine x_fieldAddr rfl rfl rfl rfl trivial ?_
      | refine x_skip trivial rfl rfl rfl ?_
      | refine x_indexAddr1 rfl rfl rfl (by assumption) (by omega) (by omega) rfl trivial ?_
      | refine x_indexAddr rfl rfl rfl (by assumption) (by omega) (by omega) rfl trivial ?_
      | refine x_nil ?_
      | refine cw_seq ?_
      | refine nw_seq ?_
      | refine nw_block ?_
      | refine cw_block ?_
      | refine cw_skip ?_
      | refine cw_region ?_
      | refine cw_exit rfl ?_
      | refine cw_true rfl ?_
      | refine cw_false rfl ?_)
    exact cw_ret2 rfl rfl rfl ⟨rfl, .inl ⟨by omega, rfl⟩⟩
  | true =>
    obtain ⟨g1, ws, g2⟩ := hasA_iff.1 h0
    obtain ⟨w, ho, _, hc0, _⟩ := hM.at_ g2
    have ew : wordsA a h = ws := by unfold wordsA; rw [g2]
    have sW := ho.sl
    simp only at sW
    simp only [if_true]
    repeat (first
      | refine x_move rfl rfl rfl trivial ?_
      | refine x_assign rfl rfl rfl trivial ?_
      | refine x_add rfl rfl rfl (wrap_i64 (by omega) (by omega)) rfl trivial ?_
      | refine x_sub_ rfl rfl rfl (wrap_i64 (by omega) (by omega)) rfl trivial ?_
      | refine x_sub_ rfl rfl rfl (wrap_u32 (by omega) (by omega)) rfl trivial ?_
      | refine x_add rfl rfl rfl (wrap_u32 (by omega) (by omega)) rfl trivial ?_
      | refine x_peqn rfl rfl rfl rfl trivial ?_
      | refine x_pnen rfl rfl rfl rfl trivial ?_
      | refine x_mul rfl rfl rfl (wrap_i64 (by omega) (by omega)) rfl trivial ?_
      | refine x_ibin rfl rfl rfl rfl rfl trivial ?_
      | refine x_neg_ rfl rfl (wrap_i64 (by omega) (by omega)) rfl trivial ?_
      | refine x_len rfl rfl (by assumption) rfl trivial ?_
      | refine x_pick_t rfl rfl rfl rfl trivial ?_
      | refine x_pick_f rfl rfl rfl rfl trivial ?_
      | refine x_not rfl rfl rfl trivial ?_
      | refine x_beq rfl rfl rfl rfl trivial ?_
      | refine x_bne rfl rfl rfl rfl trivial ?_
      | refine x_extract rfl rfl rfl rfl trivial ?_
      | refine x_nilCheck rfl rfl rfl trivial ?_
      | refine x_fieldAddr rfl rfl rfl rfl trivial ?_
      | refine x_skip trivial rfl rfl rfl ?_
      | refine x_indexAddr1 rfl rfl rfl (by assumption) (by omega) (by omega) rfl trivial ?_
      | refine x_indexAddr rfl rfl rfl (by assumption) (by omega) (by omega) rfl trivial ?_
      | refine x_nil ?_
      | refine cw_seq ?_
      | refine nw_seq ?_
      | refine nw_block ?_
      | refine cw_block ?_
      | refine cw_skip ?_
      | refine cw_region ?_
      | refine cw_exit rfl ?_
      | refine cw_true rfl ?_
      | refine cw_false rfl ?_)
    refine x_split 20 rfl (fun hn => ?_) (fun hn => ?_) <;> (try simp at hn)
    · have e : errA a h i = 2 := by unfold errA; rw [if_neg (by rw [h0]; simp), if_pos (.inl hn)]
      rw [e]
      repeat (first
        | refine x_move rfl rfl rfl trivial ?_
        | refine x_assign rfl rfl rfl trivial ?_
        | refine x_add rfl rfl rfl (wrap_i64 (by omega) (by omega)) rfl trivial ?_
        | refine x_sub_ rfl rfl rfl (wrap_i64 (by omega) (by omega)) rfl trivial ?_
        | refine x_sub_ rfl rfl rfl (wrap_u32 (by omega) (by omega)) rfl trivial ?_
        | refine x_add rfl rfl rfl (wrap_u32 (by omega) (by omega)) rfl trivial ?_
        | refine x_peqn rfl rfl rfl rfl trivial ?_
        | refine x_pnen rfl rfl rfl rfl trivial ?_
        | refine x_mul rfl rfl rfl (wrap_i64 (by omega) (by omega)) rfl trivial ?_
        | refine x_ibin rfl rfl rfl rfl rfl trivial ?_
        | refine x_neg_ rfl rfl (wrap_i64 (by omega) (by omega)) rfl trivial ?_
        | refine x_len rfl rfl (by assumption) rfl trivial ?_
        | refine x_pick_t rfl rfl rfl rfl trivial ?_
        | refine x_pick_f rfl rfl rfl rfl trivial ?_
        | refine x_not rfl rfl rfl trivial ?_
        | refine x_beq rfl rfl rfl rfl trivial ?_
        | refine x_bne rfl rfl rfl rfl trivial ?_
        | refine x_extract rfl rfl rfl rfl trivial ?_
        | refine x_nilCheck rfl rfl rfl trivial ?_
        | refine x_fieldAddr rfl rfl rfl rfl trivial ?_
        | refine x_skip trivial rfl rfl rfl ?_
        | refine x_indexAddr1 rfl rfl rfl (by assumption) (by omega) (by omega) rfl trivial ?_
        | refine x_indexAddr rfl rfl rfl (by assumption) (by omega) (by omega) rfl trivial ?_
        | refine x_nil ?_
        | refine cw_seq ?_
        | refine nw_seq ?_
        | refine nw_block ?_
        | refine cw_block ?_
        | refine cw_skip ?_
        | refine cw_region ?_
        | refine cw_exit rfl ?_
        | refine cw_true rfl ?_
        | refine cw_false rfl ?_)
      exact cw_ret2 rfl rfl rfl ⟨rfl, .inl ⟨by omega, rfl⟩⟩
    · repeat (first
        | refine x_move rfl rfl rfl trivial ?_
        | refine x_assign rfl rfl rfl trivial ?_
        | refine x_add rfl rfl rfl (wrap_i64 (by omega) (by omega)) rfl trivial ?_
        | refine x_sub_ rfl rfl rfl (wrap_i64 (by omega) (by omega)) rfl trivial ?_
        | refine x_sub_ rfl rfl rfl (wrap_u32 (by omega) (by omega)) rfl trivial ?_
        | refine x_add rfl rfl rfl (wrap_u32 (by omega) (by omega)) rfl trivial ?_
        | refine x_peqn rfl rfl rfl rfl trivial ?_
        | refine x_pnen rfl rfl rfl rfl trivial ?_
        | refine x_mul rfl rfl rfl (wrap_i64 (by omega) (by omega)) rfl trivial ?_
        | refine x_ibin rfl rfl rfl rfl rfl trivial ?_
        | refine x_neg_ rfl rfl (wrap_i64 (by omega) (by omega)) rfl trivial ?_
        | refine x_len rfl rfl (by assumption) rfl trivial ?_
        | refine x_pick_t rfl rfl rfl rfl trivial ?_
        | refine x_pick_f rfl rfl rfl rfl trivial ?_
        | refine x_not rfl rfl rfl trivial ?_
        | refine x_beq rfl rfl rfl rfl trivial ?_
        | refine x_bne rfl rfl rfl rfl trivial ?_
        | refine x_extract rfl rfl rfl rfl trivial ?_
        | refine x_nilCheck rfl rfl rfl trivial ?_
        | refine x_fieldAddr rfl rfl rfl rfl trivial ?_
        | refine x_skip trivial rfl rfl rfl ?_
        | refine x_indexAddr1 rfl rfl rfl (by assumption) (by omega) (by omega) rfl trivial ?_
        | refine x_indexAddr rfl rfl rfl (by assumption) (by omega) (by omega) rfl trivial ?_
        | refine x_nil ?_
        | refine cw_seq ?_
        | refine nw_seq ?_
        | refine nw_block ?_
        | refine cw_block ?_
        | refine cw_skip ?_
        | refine cw_region ?_
        | refine cw_exit rfl ?_
        | refine cw_true rfl ?_
        | refine cw_false rfl ?_)
      refine x_load rfl rfl (hpmt (hc0)) rfl trivial ?_
      repeat (first
        | refine x_move rfl rfl rfl trivial ?_
        | refine x_assign rfl rfl rfl trivial ?_
        | refine x_add rfl rfl rfl (wrap_i64 (by omega) (by omega)) rfl trivial ?_
        | refine x_sub_ rfl rfl rfl (wrap_i64 (by omega) (by omega)) rfl trivial ?_
        | refine x_sub_ rfl rfl rfl (wrap_u32 (by omega) (by omega)) rfl trivial ?_
        | refine x_add rfl rfl rfl (wrap_u32 (by omega) (by omega)) rfl trivial ?_
        | refine x_peqn rfl rfl rfl rfl trivial ?_
        | refine x_pnen rfl rfl rfl rfl trivial ?_
        | refine x_mul rfl rfl rfl (wrap_i64 (by omega) (by omega)) rfl trivial ?_
        | refine x_ibin rfl rfl rfl rfl rfl trivial ?_
        | refine x_neg_ rfl rfl (wrap_i64 (by omega) (by omega)) rfl trivial ?_
        | refine x_len rfl rfl (by assumption) rfl trivial ?_
        | refine x_pick_t rfl rfl rfl rfl trivial ?_
        | refine x_pick_f rfl rfl rfl rfl trivial ?_
        | refine x_not rfl rfl rfl trivial ?_
        | refine x_beq rfl rfl rfl rfl trivial ?_
        | refine x_bne rfl rfl rfl rfl trivial ?_
        | refine x_extract rfl rfl rfl rfl trivial ?_
        | refine x_nilCheck rfl rfl rfl trivial ?_
        | refine x_fieldAddr rfl rfl rfl rfl trivial ?_
        | refine x_skip trivial rfl rfl rfl ?_
        | refine x_indexAddr1 rfl rfl rfl (by assumption) (by omega) (by omega) rfl trivial ?_
        | refine x_indexAddr rfl rfl rfl (by assumption) (by omega) (by omega) rfl trivial ?_
        | refine x_nil ?_
        | refine cw_seq ?_
        | refine nw_seq ?_
        | refine nw_block ?_
        | refine cw_block ?_
        | refine cw_skip ?_
        | refine cw_region ?_
        | refine cw_exit rfl ?_
        | refine cw_true rfl ?_
        | refine cw_false rfl ?_)
      refine cw_cond rfl (fun hn2 => ?_) (fun hn2 => ?_) <;> (try simp at hn2)
      · have e : errA a h i = 2 := by unfold errA; rw [if_neg (by rw [h0]; simp), ew, if_pos (.inr (by omega))]
        rw [e]
        repeat (first
          | refine x_move rfl rfl rfl trivial ?_
          | refine x_assign rfl rfl rfl trivial ?_
          | refine x_add rfl rfl rfl (wrap_i64 (by omega) (by omega)) rfl trivial ?_
          | refine x_sub_ rfl rfl rfl (wrap_i64 (by omega) (by omega)) rfl trivial ?_
          | refine x_sub_ rfl rfl rfl (wrap_u32 (by omega) (by omega)) rfl trivial ?_
          | refine x_add rfl rfl rfl (wrap_u32 (by omega) (by omega)) rfl trivial ?_
          | refine x_peqn rfl rfl rfl rfl trivial ?_
          | refine x_pnen rfl rfl rfl rfl trivial ?_
          | refine x_mul rfl rfl rfl (wrap_i64 (by omega) (by omega)) rfl trivial ?_
          | refine x_ibin rfl rfl rfl rfl rfl trivial ?_
          | refine x_neg_ rfl rfl (wrap_i64 (by omega) (by omega)) rfl trivial ?_
          | refine x_len rfl rfl (by assumption) rfl trivial ?_
          | refine x_pick_t rfl rfl rfl rfl trivial ?_
          | refine x_pick_f rfl rfl rfl rfl trivial ?_
          | refine x_not rfl rfl rfl trivial ?_
          | refine x_beq rfl rfl rfl rfl trivial ?_
          | refine x_bne rfl rfl rfl rfl trivial ?_
          | refine x_extract rfl rfl rfl rfl trivial ?_
          | refine x_nilCheck rfl rfl rfl trivial ?_
          | refine x_fieldAddr rfl rfl rfl rfl trivial ?_
          | refine x_skip trivial rfl rfl rfl ?_
          | refine x_indexAddr1 rfl rfl rfl (by assumption) (by omega) (by omega) rfl trivial ?_
          | refine x_indexAddr rfl rfl rfl (by assumption) (by omega) (by omega) rfl trivial ?_
          | refine x_nil ?_
          | refine cw_seq ?_
          | refine nw_seq ?_
          | refine nw_block ?_
          | refine cw_block ?_
          | refine cw_skip ?_
          | refine cw_region ?_
          | refine cw_exit rfl ?_
          | refine cw_true rfl ?_
          | refine cw_false rfl ?_)
        exact cw_ret2 rfl rfl rfl ⟨rfl, .inl ⟨by omega, rfl⟩⟩
      · have e : errA a h i = 0 := by unfold errA; rw [if_neg (by rw [h0]; simp), ew, if_neg (by omega)]
        rw [e]
        repeat (first
          | refine x_move rfl rfl rfl trivial ?_
          | refine x_assign rfl rfl rfl trivial ?_
          | refine x_add rfl rfl rfl (wrap_i64 (by omega) (by omega)) rfl trivial ?_
          | refine x_sub_ rfl rfl rfl (wrap_i64 (by omega) (by omega)) rfl trivial ?_
          | refine x_sub_ rfl rfl rfl (wrap_u32 (by omega) (by omega)) rfl trivial ?_
          | refine x_add rfl rfl rfl (wrap_u32 (by omega) (by omega)) rfl trivial ?_
          | refine x_peqn rfl rfl rfl rfl trivial ?_
          | refine x_pnen rfl rfl rfl rfl trivial ?_
          | refine x_mul rfl rfl rfl (wrap_i64 (by omega) (by omega)) rfl trivial ?_
          | refine x_ibin rfl rfl rfl rfl rfl trivial ?_
          | refine x_neg_ rfl rfl (wrap_i64 (by omega) (by omega)) rfl trivial ?_
          | refine x_len rfl rfl (by assumption) rfl trivial ?_
          | refine x_pick_t rfl rfl rfl rfl trivial ?_
          | refine x_pick_f rfl rfl rfl rfl trivial ?_
          | refine x_not rfl rfl rfl trivial ?_
          | refine x_beq rfl rfl rfl rfl trivial ?_
          | refine x_bne rfl rfl rfl rfl trivial ?_
          | refine x_extract rfl rfl rfl rfl trivial ?_
          | refine x_nilCheck rfl rfl rfl trivial ?_
          | refine x_fieldAddr rfl rfl rfl rfl trivial ?_
          | refine x_skip trivial rfl rfl rfl ?_
          | refine x_indexAddr1 rfl rfl rfl (by assumption) (by omega) (by omega) rfl trivial ?_
          | refine x_indexAddr rfl rfl rfl (by assumption) (by omega) (by omega) rfl trivial ?_
          | refine x_nil ?_
          | refine cw_seq ?_
          | refine nw_seq ?_
          | refine nw_block ?_
          | refine cw_block ?_
          | refine cw_skip ?_
          | refine cw_region ?_
          | refine cw_exit rfl ?_
          | refine cw_true rfl ?_
          | refine cw_false rfl ?_)
        refine x_load rfl rfl (hpmt (hc0)) rfl trivial ?_
        repeat (first
          | refine x_move rfl rfl rfl trivial ?_
          | refine x_assign rfl rfl rfl trivial ?_
          | refine x_add rfl rfl rfl (wrap_i64 (by omega) (by omega)) rfl trivial ?_
          | refine x_sub_ rfl rfl rfl (wrap_i64 (by omega) (by omega)) rfl trivial ?_
          | refine x_sub_ rfl rfl rfl (wrap_u32 (by omega) (by omega)) rfl trivial ?_
          | refine x_add rfl rfl rfl (wrap_u32 (by omega) (by omega)) rfl trivial ?_
          | refine x_peqn rfl rfl rfl rfl trivial ?_
          | refine x_pnen rfl rfl rfl rfl trivial ?_
          | refine x_mul rfl rfl rfl (wrap_i64 (by omega) (by omega)) rfl trivial ?_
          | refine x_ibin rfl rfl rfl rfl rfl trivial ?_
          | refine x_neg_ rfl rfl (wrap_i64 (by omega) (by omega)) rfl trivial ?_
          | refine x_len rfl rfl (by assumption) rfl trivial ?_
          | refine x_pick_t rfl rfl rfl rfl trivial ?_
          | refine x_pick_f rfl rfl rfl rfl trivial ?_
          | refine x_not rfl rfl rfl trivial ?_
          | refine x_beq rfl rfl rfl rfl trivial ?_
          | refine x_bne rfl rfl rfl rfl trivial ?_
          | refine x_extract rfl rfl rfl rfl trivial ?_
          | refine x_nilCheck rfl rfl rfl trivial ?_
          | refine x_fieldAddr rfl rfl rfl rfl trivial ?_
          | refine x_skip trivial rfl rfl rfl ?_
          | refine x_indexAddr1 rfl rfl rfl (by assumption) (by omega) (by omega) rfl trivial ?_
          | refine x_indexAddr rfl rfl rfl (by assumption) (by omega) (by omega) rfl trivial ?_
          | refine x_nil ?_
          | refine cw_seq ?_
          | refine nw_seq ?_
          | refine nw_block ?_
          | refine cw_block ?_
          | refine cw_skip ?_
          | refine cw_region ?_
          | refine cw_exit rfl ?_
          | refine cw_true rfl ?_
          | refine cw_false rfl ?_)
        exact cw_ret2 rfl rfl rfl ⟨rfl, .inr ⟨rfl, w, hc0, rfl⟩⟩
theorem arena_Get {K : Role} {b h : Nat} {i : Int} {a : Ar} {H : Heap} (hS : Sa K H b a) (hh : h < 4294967296) (hl : a.cs.length ≤ 1000000) :
    Ret Try.prog 16 [ptr b 0, .int .u32 (h : Nat), .int .i64 i] H (fun v H' => H = H' ∧ v = .tuple #[.int .u64 (getA a h i), .int .i64 (errA a h i)]) := by
  obtain ⟨vc, vb, hM⟩ := hS
  refine ret_of Try.func16 rfl rfl rfl rfl ?_
  intro w0
  repeat (first
    | refine x_move rfl rfl rfl trivial ?_
    | refine x_assign rfl rfl rfl trivial ?_
    | refine x_add rfl rfl rfl (wrap_i64 (by omega) (by omega)) rfl trivial ?_
    | refine x_sub_ rfl rfl rfl (wrap_i64 (by omega) (by omega)) rfl trivial ?_
    | refine x_sub_ rfl rfl rfl (wrap_u32 (by omega) (by omega)) rfl trivial ?_
    | refine x_add rfl rfl rfl (wrap_u32 (by omega) (by omega)) rfl trivial ?_
    | refine x_peqn rfl rfl rfl rfl trivial ?_
    | refine x_pnen rfl rfl rfl rfl trivial ?_
    | refine x_mul rfl rfl rfl (wrap_i64 (by omega) (by omega)) rfl trivial ?_
    | refine x_ibin rfl rfl rfl rfl rfl trivial ?_
    | refine x_neg_ rfl rfl (wrap_i64 (by omega) (by omega)) rfl trivial ?_
    | refine x_len rfl rfl (by assumption) rfl trivial ?_
    | refine x_pick_t rfl rfl rfl rfl trivial ?_
    | refine x_pick_f rfl rfl rfl rfl trivial ?_
    | refine x_not rfl rfl rfl trivial ?_
    | refine x_beq rfl rfl rfl rfl trivial ?_
    | refine x_bne rfl rfl rfl rfl trivial ?_
    | refine x_extract rfl rfl rfl rfl trivial ?_
    | refine x_nilCheck rfl rfl rfl trivial ?_
    | refine x_fieldAddr rfl rfl rfl rfl trivial ?_
    | refine x_skip trivial rfl rfl rfl ?_
    | refine x_indexAddr1 rfl rfl rfl (by assumption) (by omega) (by omega) rfl trivial ?_
    | refine x_indexAddr rfl rfl rfl (by assumption) (by omega) (by omega) rfl trivial ?_
    | refine x_nil ?_
    | refine cw_seq ?_
    | refine nw_seq ?_
    | refine nw_block ?_
    | refine cw_block ?_
    | refine cw_skip ?_
    | refine cw_region ?_
    | refine cw_exit rfl ?_
    | refine cw_true rfl ?_
    | refine cw_false rfl ?_)
  refine x_call rfl rfl rfl trivial (arena_word hM hh hl) ?_
  rintro _ _ ⟨rfl, hv⟩
  refine ⟨trivial, ?_⟩
  rcases hv with ⟨e, rfl⟩ | ⟨e, w, hw, rfl⟩
  · have eg : getA a h i = 0 := by unfold getA; rw [if_neg e]
    rw [eg]
    repeat (first
      | refine x_move rfl rfl rfl trivial ?_
      | refine x_assign rfl rfl rfl trivial ?_
      | refine x_add rfl rfl rfl (wrap_i64 (by omega) (by omega)) rfl trivial ?_
      | refine x_sub_ rfl rfl rfl (wrap_i64 (by omega) (by omega)) rfl trivial ?_
      | refine x_sub_ rfl rfl rfl (wrap_u32 (by omega) (by omega)) rfl trivial ?_
      | refine x_add rfl rfl rfl (wrap_u32 (by omega) (by omega)) rfl trivial ?_
      | refine x_peqn rfl rfl rfl rfl trivial ?_
      | refine x_pnen rfl rfl rfl rfl trivial ?_
      | refine x_mul rfl rfl rfl (wrap_i64 (by omega) (by omega)) rfl trivial ?_
      | refine x_ibin rfl rfl rfl rfl rfl trivial ?_
      | refine x_neg_ rfl rfl (wrap_i64 (by omega) (by omega)) rfl trivial ?_
      | refine x_len rfl rfl (by assumption) rfl trivial ?_
      | refine x_pick_t rfl rfl rfl rfl trivial ?_
      | refine x_pick_f rfl rfl rfl rfl trivial ?_
      | refine x_not rfl rfl rfl trivial ?_
      | refine x_beq rfl rfl rfl rfl trivial ?_
      | refine x_bne rfl rfl rfl rfl trivial ?_
      | refine x_extract rfl rfl rfl rfl trivial ?_
      | refine x_nilCheck rfl rfl rfl trivial ?_
      | refine x_fieldAddr rfl rfl rfl rfl trivial ?_
      | refine x_skip trivial rfl rfl rfl ?_
      | refine x_indexAddr1 rfl rfl rfl (by assumption) (by omega) (by omega) rfl trivial ?_
      | refine x_indexAddr rfl rfl rfl (by assumption) (by omega) (by omega) rfl trivial ?_
      | refine x_nil ?_
      | refine cw_seq ?_
      | refine nw_seq ?_
      | refine nw_block ?_
      | refine cw_block ?_
      | refine cw_skip ?_
      | refine cw_region ?_
      | refine cw_exit rfl ?_
      | refine cw_true rfl ?_
      | refine cw_false rfl ?_)
    refine cw_cond rfl (fun _ => ?_) (fun h => absurd h (by simpa using e))
    repeat (first
      | refine x_move rfl rfl rfl trivial ?_
      | refine x_assign rfl rfl rfl trivial ?_
      | refine x_add rfl rfl rfl (wrap_i64 (by omega) (by omega)) rfl trivial ?_
      | refine x_sub_ rfl rfl rfl (wrap_i64 (by omega) (by omega)) rfl trivial ?_
      | refine x_sub_ rfl rfl rfl (wrap_u32 (by omega) (by omega)) rfl trivial ?_
      | refine x_add rfl rfl rfl (wrap_u32 (by omega) (by omega)) rfl trivial ?_
      | refine x_peqn rfl rfl rfl rfl trivial ?_
      | refine x_pnen rfl rfl rfl rfl trivial ?_
      | refine x_mul rfl rfl rfl (wrap_i64 (by omega) (by omega)) rfl trivial ?_
      | refine x_ibin rfl rfl rfl rfl rfl trivial ?_
      | refine x_neg_ rfl rfl (wrap_i64 (by omega) (by omega)) rfl trivial ?_
      | refine x_len rfl rfl (by assumption) rfl trivial ?_
      | refine x_pick_t rfl rfl rfl rfl trivial ?_
      | refine x_pick_f rfl rfl rfl rfl trivial ?_
      | refine x_not rfl rfl rfl trivial ?_
      | refine x_beq rfl rfl rfl rfl trivial ?_
      | refine x_bne rfl rfl rfl rfl trivial ?_
      | refine x_extract rfl rfl rfl rfl trivial ?_
      | refine x_nilCheck rfl rfl rfl trivial ?_
      | refine x_fieldAddr rfl rfl rfl rfl trivial ?_
      | refine x_skip trivial rfl rfl rfl ?_
      | refine x_indexAddr1 rfl rfl rfl (by assumption) (by omega) (by omega) rfl trivial ?_
      | refine x_indexAddr rfl rfl rfl (by assumption) (by omega) (by omega) rfl trivial ?_
      | refine x_nil ?_
      | refine cw_seq ?_
      | refine nw_seq ?_
      | refine nw_block ?_
      | refine cw_block ?_
      | refine cw_skip ?_
      | refine cw_region ?_
      | refine cw_exit rfl ?_
      | refine cw_true rfl ?_
      | refine cw_false rfl ?_)
    exact cw_ret2 rfl rfl rfl ⟨rfl, rfl⟩
  · obtain ⟨ws, g1, g2, g3, g4, g5⟩ := errA_zero e
    obtain ⟨w', ho, _, hc0, _⟩ := hM.at_ g2
    rw [hw] at hc0
    cases hc0
    obtain ⟨m, rfl⟩ := Int.eq_ofNat_of_zero_le g4
    have hx : cel H (sb w) (so w + m) = some (.int .u64 (ws[m]'(by omega))) := by
      rw [ho.cels m (by rw [u64s_length]; simp only; omega)]
      simp [u64s]
    have eg : getA a h (m : Int) = ws[m]'(by omega) := by
      unfold getA
      rw [if_pos e, g3]
      show (ws[m]?).getD 0 = _
      rw [List.getElem?_eq_getElem (by omega)]
      rfl
    rw [eg, e]
    repeat (first
      | refine x_move rfl rfl rfl trivial ?_
      | refine x_assign rfl rfl rfl trivial ?_
      | refine x_add rfl rfl rfl (wrap_i64 (by omega) (by omega)) rfl trivial ?_
      | refine x_sub_ rfl rfl rfl (wrap_i64 (by omega) (by omega)) rfl trivial ?_
      | refine x_sub_ rfl rfl rfl (wrap_u32 (by omega) (by omega)) rfl trivial ?_
      | refine x_add rfl rfl rfl (wrap_u32 (by omega) (by omega)) rfl trivial ?_
      | refine x_peqn rfl rfl rfl rfl trivial ?_
      | refine x_pnen rfl rfl rfl rfl trivial ?_
      | refine x_mul rfl rfl rfl (wrap_i64 (by omega) (by omega)) rfl trivial ?_
      | refine x_ibin rfl rfl rfl rfl rfl trivial ?_
      | refine x_neg_ rfl rfl (wrap_i64 (by omega) (by omega)) rfl trivial ?_
      | refine x_len rfl rfl (by assumption) rfl trivial ?_
      | refine x_pick_t rfl rfl rfl rfl trivial ?_
      | refine x_pick_f rfl rfl rfl rfl trivial ?_
      | refine x_not rfl rfl rfl trivial ?_
      | refine x_beq rfl rfl rfl rfl trivial ?_
      | refine x_bne rfl rfl rfl rfl trivial ?_
      | refine x_extract rfl rfl rfl rfl trivial ?_
      | refine x_nilCheck rfl rfl rfl trivial ?_
      | refine x_fieldAddr rfl rfl rfl rfl trivial ?_
      | refine x_skip trivial rfl rfl rfl ?_
      | refine x_indexAddr1 rfl rfl rfl (by assumption) (by omega) (by omega) rfl trivial ?_
      | refine x_indexAddr rfl rfl rfl (by assumption) (by omega) (by omega) rfl trivial ?_
      | refine x_nil ?_
      | refine cw_seq ?_
      | refine nw_seq ?_
      | refine nw_block ?_
      | refine cw_block ?_
      | refine cw_skip ?_
      | refine cw_region ?_
      | refine cw_exit rfl ?_
      | refine cw_true rfl ?_
      | refine cw_false rfl ?_)
    refine x_load rfl rfl (hpmt (hx)) rfl trivial ?_
    repeat (first
      | refine x_move rfl rfl rfl trivial ?_
      | refine x_assign rfl rfl rfl trivial ?_
      | refine x_add rfl rfl rfl (wrap_i64 (by omega) (by omega)) rfl trivial ?_
      | refine x_sub_ rfl rfl rfl (wrap_i64 (by omega) (by omega)) rfl trivial ?_
      | refine x_sub_ rfl rfl rfl (wrap_u32 (by omega) (by omega)) rfl trivial ?_
      | refine x_add rfl rfl rfl (wrap_u32 (by omega) (by omega)) rfl trivial ?_
      | refine x_peqn rfl rfl rfl rfl trivial ?_
      | refine x_pnen rfl rfl rfl rfl trivial ?_
      | refine x_mul rfl rfl rfl (wrap_i64 (by omega) (by omega)) rfl trivial ?_
      | refine x_ibin rfl rfl rfl rfl rfl trivial ?_
      | refine x_neg_ rfl rfl (wrap_i64 (by omega) (by omega)) rfl trivial ?_
      | refine x_len rfl rfl (by assumption) rfl trivial ?_
      | refine x_pick_t rfl rfl rfl rfl trivial ?_
      | refine x_pick_f rfl rfl rfl rfl trivial ?_
      | refine x_not rfl rfl rfl trivial ?_
      | refine x_beq rfl rfl rfl rfl trivial ?_
      | refine x_bne rfl rfl rfl rfl trivial ?_
      | refine x_extract rfl rfl rfl rfl trivial ?_
      | refine x_nilCheck rfl rfl rfl trivial ?_
      | refine x_fieldAddr rfl rfl rfl rfl trivial ?_
      | refine x_skip trivial rfl rfl rfl ?_
      | refine x_indexAddr1 rfl rfl rfl (by assumption) (by omega) (by omega) rfl trivial ?_
      | refine x_indexAddr rfl rfl rfl (by assumption) (by omega) (by omega) rfl trivial ?_
      | refine x_nil ?_
      | refine cw_seq ?_
      | refine nw_seq ?_
      | refine nw_block ?_
      | refine cw_block ?_
      | refine cw_skip ?_
      | refine cw_region ?_
      | refine cw_exit rfl ?_
      | refine cw_true rfl ?_
      | refine cw_false rfl ?_)
    exact cw_ret2 rfl rfl rfl ⟨rfl, rfl⟩
theorem arena_Set {K : Role} {b h : Nat} {i x : Int} {a : Ar} {H : Heap} (hS : Sa K H b a) (hh : h < 4294967296) (hl : a.cs.length ≤ 1000000) :
    Ret Try.prog 15 [ptr b 0, .int .u32 (h : Nat), .int .i64 i, .int .u64 x] H (fun v H' => v = .int .i64 (errA a h i) ∧ Keep (MutA K) H H' ∧ Sa K H' b (setA a h i x)) := by
  have hS0 := hS
  obtain ⟨vc, vb, hM⟩ := hS
  refine ret_of Try.func15 rfl rfl rfl rfl ?_
  intro w0
  repeat (first
    | refine x_move rfl rfl rfl trivial ?_
    | refine x_assign rfl rfl rfl trivial ?_
    | refine x_add rfl rfl rfl (wrap_i64 (by omega) (by omega)) rfl trivial ?_
    | refine x_sub_ rfl rfl rfl (wrap_i64 (by omega) (by omega)) rfl trivial ?_
    | refine x_sub_ rfl rfl rfl (wrap_u32 (by omega) (by omega)) rfl trivial ?_
    | refine x_add rfl rfl rfl (wrap_u32 (by omega) (by omega)) rfl trivial ?_
    | refine x_peqn rfl rfl rfl rfl trivial ?_
    | refine x_pnen rfl rfl rfl rfl trivial ?_
    | refine x_mul rfl rfl rfl (wrap_i64 (by omega) (by omega)) rfl trivial ?_
    | refine x_ibin rfl rfl rfl rfl rfl trivial ?_
    | refine x_neg_ rfl rfl (wrap_i64 (by omega) (by omega)) rfl trivial ?_
    | refine x_len rfl rfl (by assumption) rfl trivial ?_
    | refine x_pick_t rfl rfl rfl rfl trivial ?_
    | refine x_pick_f rfl rfl rfl rfl trivial ?_
    | refine x_not rfl rfl rfl trivial ?_
    | refine x_beq rfl rfl rfl rfl trivial ?_
    | refine x_bne rfl rfl rfl rfl trivial ?_
    | refine x_extract rfl rfl rfl rfl trivial ?_
    | refine x_nilCheck rfl rfl rfl trivial ?_
    | refine x_fieldAddr rfl rfl rfl rfl trivial ?_
    | refine x_skip trivial rfl rfl rfl ?_
    | refine x_indexAddr1 rfl rfl rfl (by assumption) (by omega) (by omega) rfl trivial ?_
    | refine x_indexAddr rfl rfl rfl (by assumption) (by omega) (by omega) rfl trivial ?_
    | refine x_nil ?_
    | refine cw_seq ?_
    | refine nw_seq ?_
    | refine nw_block ?_
    | refine cw_block ?_
    | refine cw_skip ?_
    | refine cw_region ?_
    | refine cw_exit rfl ?_
    | refine cw_true rfl ?_
    | refine cw_false rfl ?_)
  refine x_call rfl rfl rfl trivial (arena_word hM hh hl) ?_
  rintro _ _ ⟨rfl, hv⟩
  refine ⟨trivial, ?_⟩
  rcases hv with ⟨e, rfl⟩ | ⟨e, w, hw, rfl⟩
  · have eg : setA a h i x = a := by unfold setA; rw [if_neg e]
    rw [eg]
    repeat (first
      | refine x_move rfl rfl rfl trivial ?_
      | refine x_assign rfl rfl rfl trivial ?_
      | refine x_add rfl rfl rfl (wrap_i64 (by omega) (by omega)) rfl trivial ?_
      | refine x_sub_ rfl rfl rfl (wrap_i64 (by omega) (by omega)) rfl trivial ?_
      | refine x_sub_ rfl rfl rfl (wrap_u32 (by omega) (by omega)) rfl trivial ?_
      | refine x_add rfl rfl rfl (wrap_u32 (by omega) (by omega)) rfl trivial ?_
      | refine x_peqn rfl rfl rfl rfl trivial ?_
      | refine x_pnen rfl rfl rfl rfl trivial ?_
      | refine x_mul rfl rfl rfl (wrap_i64 (by omega) (by omega)) rfl trivial ?_
      | refine x_ibin rfl rfl rfl rfl rfl trivial ?_
      | refine x_neg_ rfl rfl (wrap_i64 (by omega) (by omega)) rfl trivial ?_
      | refine x_len rfl rfl (by assumption) rfl trivial ?_
      | refine x_pick_t rfl rfl rfl rfl trivial ?_
      | refine x_pick_f rfl rfl rfl rfl trivial ?_
      | refine x_not rfl rfl rfl trivial ?_
      | refine x_beq rfl rfl rfl rfl trivial ?_
      | refine x_bne rfl rfl rfl rfl trivial ?_
      | refine x_extract rfl rfl rfl rfl trivial ?_
      | refine x_nilCheck rfl rfl rfl trivial ?_
      | refine x_fieldAddr rfl rfl rfl rfl trivial ?_
      | refine x_skip trivial rfl rfl rfl ?_
      | refine x_indexAddr1 rfl rfl rfl (by assumption) (by omega) (by omega) rfl trivial ?_
      | refine x_indexAddr rfl rfl rfl (by assumption) (by omega) (by omega) rfl trivial ?_
      | refine x_nil ?_
      | refine cw_seq ?_
      | refine nw_seq ?_
      | refine nw_block ?_
      | refine cw_block ?_
      | refine cw_skip ?_
      | refine cw_region ?_
      | refine cw_exit rfl ?_
      | refine cw_true rfl ?_
      | refine cw_false rfl ?_)
    refine cw_cond rfl (fun _ => ?_) (fun h => absurd h (by simpa using e))
    repeat (first
      | refine x_move rfl rfl rfl trivial ?_
      | refine x_assign rfl rfl rfl trivial ?_
      | refine x_add rfl rfl rfl (wrap_i64 (by omega) (by omega)) rfl trivial ?_
      | refine x_sub_ rfl rfl rfl (wrap_i64 (by omega) (by omega)) rfl trivial ?_
      | refine x_sub_ rfl rfl rfl (wrap_u32 (by omega) (by omega)) rfl trivial ?_
      | refine x_add rfl rfl rfl (wrap_u32 (by omega) (by omega)) rfl trivial ?_
      | refine x_peqn rfl rfl rfl rfl trivial ?_
      | refine x_pnen rfl rfl rfl rfl trivial ?_
      | refine x_mul rfl rfl rfl (wrap_i64 (by omega) (by omega)) rfl trivial ?_
      | refine x_ibin rfl rfl rfl rfl rfl trivial ?_
      | refine x_neg_ rfl rfl (wrap_i64 (by omega) (by omega)) rfl trivial ?_
      | refine x_len rfl rfl (by assumption) rfl trivial ?_
      | refine x_pick_t rfl rfl rfl rfl trivial ?_
      | refine x_pick_f rfl rfl rfl rfl trivial ?_
      | refine x_not rfl rfl rfl trivial ?_
      | refine x_beq rfl rfl rfl rfl trivial ?_
      | refine x_bne rfl rfl rfl rfl trivial ?_
      | refine x_extract rfl rfl rfl rfl trivial ?_
      | refine x_nilCheck rfl rfl rfl trivial ?_
      | refine x_fieldAddr rfl rfl rfl rfl trivial ?_
      | refine x_skip trivial rfl rfl rfl ?_
      | refine x_indexAddr1 rfl rfl rfl (by assumption) (by omega) (by omega) rfl trivial ?_
      | refine x_indexAddr rfl rfl rfl (by assumption) (by omega) (by omega) rfl trivial ?_
      | refine x_nil ?_
      | refine cw_seq ?_
      | refine nw_seq ?_
      | refine nw_block ?_
      | refine cw_block ?_
      | refine cw_skip ?_
      | refine cw_region ?_
      | refine cw_exit rfl ?_
      | refine cw_true rfl ?_
      | refine cw_false rfl ?_)
    exact cw_ret1 rfl rfl ⟨rfl, Keep.refl _ _, hS0⟩
  · obtain ⟨ws, g1, g2, g3, g4, g5⟩ := errA_zero e
    obtain ⟨m, rfl⟩ := Int.eq_ofNat_of_zero_le g4
    obtain ⟨w', r, hc0, hsl, kw, hB, hr, hput⟩ := hM.putW (i := m) g2 (by simp only; omega)
    rw [hw] at hc0
    cases hc0
    have eg : setA a h (m : Int) x = ⟨a.most, a.cs.set (h - 1) (ws.set m x, true), a.back⟩ := by
      unfold setA
      rw [if_pos e, g3]
      rfl
    rw [eg, e]
    repeat (first
      | refine x_move rfl rfl rfl trivial ?_
      | refine x_assign rfl rfl rfl trivial ?_
      | refine x_add rfl rfl rfl (wrap_i64 (by omega) (by omega)) rfl trivial ?_
      | refine x_sub_ rfl rfl rfl (wrap_i64 (by omega) (by omega)) rfl trivial ?_
      | refine x_sub_ rfl rfl rfl (wrap_u32 (by omega) (by omega)) rfl trivial ?_
      | refine x_add rfl rfl rfl (wrap_u32 (by omega) (by omega)) rfl trivial ?_
      | refine x_peqn rfl rfl rfl rfl trivial ?_
      | refine x_pnen rfl rfl rfl rfl trivial ?_
      | refine x_mul rfl rfl rfl (wrap_i64 (by omega) (by omega)) rfl trivial ?_
      | refine x_ibin rfl rfl rfl rfl rfl trivial ?_
      | refine x_neg_ rfl rfl (wrap_i64 (by omega) (by omega)) rfl trivial ?_
      | refine x_len rfl rfl (by assumption) rfl trivial ?_
      | refine x_pick_t rfl rfl rfl rfl trivial ?_
      | refine x_pick_f rfl rfl rfl rfl trivial ?_
      | refine x_not rfl rfl rfl trivial ?_
      | refine x_beq rfl rfl rfl rfl trivial ?_
      | refine x_bne rfl rfl rfl rfl trivial ?_
      | refine x_extract rfl rfl rfl rfl trivial ?_
      | refine x_nilCheck rfl rfl rfl trivial ?_
      | refine x_fieldAddr rfl rfl rfl rfl trivial ?_
      | refine x_skip trivial rfl rfl rfl ?_
      | refine x_indexAddr1 rfl rfl rfl (by assumption) (by omega) (by omega) rfl trivial ?_
      | refine x_indexAddr rfl rfl rfl (by assumption) (by omega) (by omega) rfl trivial ?_
      | refine x_nil ?_
      | refine cw_seq ?_
      | refine nw_seq ?_
      | refine nw_block ?_
      | refine cw_block ?_
      | refine cw_skip ?_
      | refine cw_region ?_
      | refine cw_exit rfl ?_
      | refine cw_true rfl ?_
      | refine cw_false rfl ?_)
    refine x_store rfl rfl rfl rfl hB hr trivial ?_
    intro H1 hB1 hk1 hs1
    refine ⟨trivial, ?_⟩
    repeat (first
      | refine x_move rfl rfl rfl trivial ?_
      | refine x_assign rfl rfl rfl trivial ?_
      | refine x_add rfl rfl rfl (wrap_i64 (by omega) (by omega)) rfl trivial ?_
      | refine x_sub_ rfl rfl rfl (wrap_i64 (by omega) (by omega)) rfl trivial ?_
      | refine x_sub_ rfl rfl rfl (wrap_u32 (by omega) (by omega)) rfl trivial ?_
      | refine x_add rfl rfl rfl (wrap_u32 (by omega) (by omega)) rfl trivial ?_
      | refine x_peqn rfl rfl rfl rfl trivial ?_
      | refine x_pnen rfl rfl rfl rfl trivial ?_
      | refine x_mul rfl rfl rfl (wrap_i64 (by omega) (by omega)) rfl trivial ?_
      | refine x_ibin rfl rfl rfl rfl rfl trivial ?_
      | refine x_neg_ rfl rfl (wrap_i64 (by omega) (by omega)) rfl trivial ?_
      | refine x_len rfl rfl (by assumption) rfl trivial ?_
      | refine x_pick_t rfl rfl rfl rfl trivial ?_
      | refine x_pick_f rfl rfl rfl rfl trivial ?_
      | refine x_not rfl rfl rfl trivial ?_
      | refine x_beq rfl rfl rfl rfl trivial ?_
      | refine x_bne rfl rfl rfl rfl trivial ?_
      | refine x_extract rfl rfl rfl rfl trivial ?_
      | refine x_nilCheck rfl rfl rfl trivial ?_
      | refine x_fieldAddr rfl rfl rfl rfl trivial ?_
      | refine x_skip trivial rfl rfl rfl ?_
      | refine x_indexAddr1 rfl rfl rfl (by assumption) (by omega) (by omega) rfl trivial ?_
      | refine x_indexAddr rfl rfl rfl (by assumption) (by omega) (by omega) rfl trivial ?_
      | refine x_nil ?_
      | refine cw_seq ?_
      | refine nw_seq ?_
      | refine nw_block ?_
      | refine cw_block ?_
      | refine cw_skip ?_
      | refine cw_region ?_
      | refine cw_exit rfl ?_
      | refine cw_true rfl ?_
      | refine cw_false rfl ?_)
    refine cw_ret1 rfl rfl ⟨rfl, hk1.mono fun c _ e => ?_, vc, vb, hput H1 x hB1 hk1⟩
    show K c ≠ 0
    rw [e, kw]
    omega
theorem arena_Give {K : Role} {b h : Nat} {a : Ar} {H : Heap} (hS : Sa K H b a) (hh : h < 4294967296) (hl : a.cs.length ≤ 1000000) (hbl : a.back.length ≤ 1000000) :
    Ret Try.prog 11 [ptr b 0, .int .u32 (h : Nat)] H (fun v H' => v = .int .i64 (giveA a h).1 ∧ Keep (MutA K) H H' ∧ ∃ K', K.Ext K' H H' ∧ Sa K' H' b (giveA a h).2) := by
  have hS0 := hS
  obtain ⟨vc, vb, hM⟩ := hS
  refine ret_of Try.func11 rfl rfl rfl rfl ?_
  intro w0
  repeat (first
    | refine x_move rfl rfl rfl trivial ?_
    | refine x_assign rfl rfl rfl trivial ?_
    | refine x_add rfl rfl rfl (wrap_i64 (by omega) (by omega)) rfl trivial ?_
    | refine x_sub_ rfl rfl rfl (wrap_i64 (by omega) (by omega)) rfl trivial ?_
    | refine x_sub_ rfl rfl rfl (wrap_u32 (by omega) (by omega)) rfl trivial ?_
    | refine x_add rfl rfl rfl (wrap_u32 (by omega) (by omega)) rfl trivial ?_
    | refine x_peqn rfl rfl rfl rfl trivial ?_
    | refine x_pnen rfl rfl rfl rfl trivial ?_
    | refine x_mul rfl rfl rfl (wrap_i64 (by omega) (by omega)) rfl trivial ?_
    | refine x_ibin rfl rfl rfl rfl rfl trivial ?_
    | refine x_neg_ rfl rfl (wrap_i64 (by omega) (by omega)) rfl trivial ?_
    | refine x_len rfl rfl (by assumption) rfl trivial ?_
    | refine x_pick_t rfl rfl rfl rfl trivial ?_
    | refine x_pick_f rfl rfl rfl rfl trivial ?_
    | refine x_not rfl rfl rfl trivial ?_
    | refine x_beq rfl rfl rfl rfl trivial ?_
    | refine x_bne rfl rfl rfl rfl trivial ?_
    | refine x_extract rfl rfl rfl rfl trivial ?_
    | refine x_nilCheck rfl rfl rfl trivial ?_
    | refine x_fieldAddr rfl rfl rfl rfl trivial ?_
    | refine x_skip trivial rfl rfl rfl ?_
    | refine x_indexAddr1 rfl rfl rfl (by assumption) (by omega) (by omega) rfl trivial ?_
    | refine x_indexAddr rfl rfl rfl (by assumption) (by omega) (by omega) rfl trivial ?_
    | refine x_nil ?_
    | refine cw_seq ?_
    | refine nw_seq ?_
    | refine nw_block ?_
    | refine cw_block ?_
    | refine cw_skip ?_
    | refine cw_region ?_
    | refine cw_exit rfl ?_
    | refine cw_true rfl ?_
    | refine cw_false rfl ?_)
  refine x_call rfl rfl rfl trivial (arena_at hM hh hl) ?_
  rintro _ _ ⟨rfl, rfl⟩
  refine ⟨trivial, ?_⟩
  cases h0 : hasA a h with
  | false =>
    have e : giveA a h = (5, a) := by unfold giveA; rw [if_pos h0]
    rw [e]
    simp only [Bool.false_eq_true, if_false]
    repeat (first
      | refine x_move rfl rfl rfl trivial ?_
      | refine x_assign rfl rfl rfl trivial ?_
      | refine x_add rfl rfl rfl (wrap_i64 (by omega) (by omega)) rfl trivial ?_
      | refine x_sub_ rfl rfl rfl (wrap_i64 (by omega) (by omega)) rfl trivial ?_
      | refine x_sub_ rfl rfl rfl (wrap_u32 (by omega) (by omega)) rfl trivial ?_
      | refine x_add rfl rfl rfl (wrap_u32 (by omega) (by omega)) rfl trivial ?_
      | refine x_peqn rfl rfl rfl rfl trivial ?_
      | refine x_pnen rfl rfl rfl rfl trivial ?_
      | refine x_mul rfl rfl rfl (wrap_i64 (by omega) (by omega)) rfl trivial ?_
      | refine x_ibin rfl rfl rfl rfl rfl trivial ?_
      | refine x_neg_ rfl rfl (wrap_i64 (by omega) (by omega)) rfl trivial ?_
      | refine x_len rfl rfl (by assumption) rfl trivial ?_
      | refine x_pick_t rfl rfl rfl rfl trivial ?_
      | refine x_pick_f rfl rfl rfl rfl trivial ?_
      | refine x_not rfl rfl rfl trivial ?_
      | refine x_beq rfl rfl rfl rfl trivial ?_
      | refine x_bne rfl rfl rfl rfl trivial ?_
      | refine x_extract rfl rfl rfl rfl trivial ?_
      | refine x_nilCheck rfl rfl rfl trivial ?_
      | refine x_fieldAddr rfl rfl rfl rfl trivial ?_
      | refine x_skip trivial rfl rfl rfl ?_
      | refine x_indexAddr1 rfl rfl rfl (by assumption) (by omega) (by omega) rfl trivial ?_
      | refine x_indexAddr rfl rfl rfl (by assumption) (by omega) (by omega) rfl trivial ?_
      | refine x_nil ?_
      | refine cw_seq ?_
      | refine nw_seq ?_
      | refine nw_block ?_
      | refine cw_block ?_
      | refine cw_skip ?_
      | refine cw_region ?_
      | refine cw_exit rfl ?_
      | refine cw_true rfl ?_
      | refine cw_false rfl ?_)
    exact cw_ret1 rfl rfl ⟨rfl, Keep.refl _ _, K, Role.Ext.refl _ _, hS0⟩
  | true =>
    obtain ⟨g1, ws, g2⟩ := hasA_iff.1 h0
    have e : giveA a h = (0, ⟨a.most, a.cs.set (h - 1) ([], false), a.back ++ [h]⟩) := by unfold giveA; rw [if_neg (by rw [h0]; simp)]
    rw [e]
    have hlt := (List.getElem?_eq_some_iff.1 g2).1
    obtain ⟨r, hB, hr, hput⟩ := hM.putC hlt
    simp only [if_true]
    repeat (first
      | refine x_move rfl rfl rfl trivial ?_
      | refine x_assign rfl rfl rfl trivial ?_
      | refine x_add rfl rfl rfl (wrap_i64 (by omega) (by omega)) rfl trivial ?_
      | refine x_sub_ rfl rfl rfl (wrap_i64 (by omega) (by omega)) rfl trivial ?_
      | refine x_sub_ rfl rfl rfl (wrap_u32 (by omega) (by omega)) rfl trivial ?_
      | refine x_add rfl rfl rfl (wrap_u32 (by omega) (by omega)) rfl trivial ?_
      | refine x_peqn rfl rfl rfl rfl trivial ?_
      | refine x_pnen rfl rfl rfl rfl trivial ?_
      | refine x_mul rfl rfl rfl (wrap_i64 (by omega) (by omega)) rfl trivial ?_
      | refine x_ibin rfl rfl rfl rfl rfl trivial ?_
      | refine x_neg_ rfl rfl (wrap_i64 (by omega) (by omega)) rfl trivial ?_
      | refine x_len rfl rfl (by assumption) rfl trivial ?_
      | refine x_pick_t rfl rfl rfl rfl trivial ?_
      | refine x_pick_f rfl rfl rfl rfl trivial ?_
      | refine x_not rfl rfl rfl trivial ?_
      | refine x_beq rfl rfl rfl rfl trivial ?_
      | refine x_bne rfl rfl rfl rfl trivial ?_
      | refine x_extract rfl rfl rfl rfl trivial ?_
      | refine x_nilCheck rfl rfl rfl trivial ?_
      | refine x_fieldAddr rfl rfl rfl rfl trivial ?_
      | refine x_skip trivial rfl rfl rfl ?_
      | refine x_indexAddr1 rfl rfl rfl (by assumption) (by omega) (by omega) rfl trivial ?_
      | refine x_indexAddr rfl rfl rfl (by assumption) (by omega) (by omega) rfl trivial ?_
      | refine x_nil ?_
      | refine cw_seq ?_
      | refine nw_seq ?_
      | refine nw_block ?_
      | refine cw_block ?_
      | refine cw_skip ?_
      | refine cw_region ?_
      | refine cw_exit rfl ?_
      | refine cw_true rfl ?_
      | refine cw_false rfl ?_)
    refine x_build (cs := [.slice none 0 0, .bool false]) rfl rfl rfl (by simp) rfl trivial ?_
    repeat (first
      | refine x_move rfl rfl rfl trivial ?_
      | refine x_assign rfl rfl rfl trivial ?_
      | refine x_add rfl rfl rfl (wrap_i64 (by omega) (by omega)) rfl trivial ?_
      | refine x_sub_ rfl rfl rfl (wrap_i64 (by omega) (by omega)) rfl trivial ?_
      | refine x_sub_ rfl rfl rfl (wrap_u32 (by omega) (by omega)) rfl trivial ?_
      | refine x_add rfl rfl rfl (wrap_u32 (by omega) (by omega)) rfl trivial ?_
      | refine x_peqn rfl rfl rfl rfl trivial ?_
      | refine x_pnen rfl rfl rfl rfl trivial ?_
      | refine x_mul rfl rfl rfl (wrap_i64 (by omega) (by omega)) rfl trivial ?_
      | refine x_ibin rfl rfl rfl rfl rfl trivial ?_
      | refine x_neg_ rfl rfl (wrap_i64 (by omega) (by omega)) rfl trivial ?_
      | refine x_len rfl rfl (by assumption) rfl trivial ?_
      | refine x_pick_t rfl rfl rfl rfl trivial ?_
      | refine x_pick_f rfl rfl rfl rfl trivial ?_
      | refine x_not rfl rfl rfl trivial ?_
      | refine x_beq rfl rfl rfl rfl trivial ?_
      | refine x_bne rfl rfl rfl rfl trivial ?_
      | refine x_extract rfl rfl rfl rfl trivial ?_
      | refine x_nilCheck rfl rfl rfl trivial ?_
      | refine x_fieldAddr rfl rfl rfl rfl trivial ?_
      | refine x_skip trivial rfl rfl rfl ?_
      | refine x_indexAddr1 rfl rfl rfl (by assumption) (by omega) (by omega) rfl trivial ?_
      | refine x_indexAddr rfl rfl rfl (by assumption) (by omega) (by omega) rfl trivial ?_
      | refine x_nil ?_
      | refine cw_seq ?_
      | refine nw_seq ?_
      | refine nw_block ?_
      | refine cw_block ?_
      | refine cw_skip ?_
      | refine cw_region ?_
      | refine cw_exit rfl ?_
      | refine cw_true rfl ?_
      | refine cw_false rfl ?_)
    refine x_stores rfl rfl rfl rfl (by simp [oneC, Value.oneCell']) hB hr trivial ?_
    intro H1 hB1 hk1 hs1
    refine ⟨trivial, ?_⟩
    have hM1 := hput H1 (.slice none 0 0) [] false ⟨rfl, Own.nil 1 H, fun h => by simp [sc] at h⟩ hB1 hk1
    have hpos : 0 < sc vc := pos_of' hM.hC (by intro e; have := congrArg List.length e; simp at this; rw [this] at hlt; simp at hlt)
    have c2 : cel H1 b 2 = some vb := by rw [hM1.hb.cel]; rfl
    have hlb := lt_of_cel c2
    repeat (first
      | refine x_move rfl rfl rfl trivial ?_
      | refine x_assign rfl rfl rfl trivial ?_
      | refine x_add rfl rfl rfl (wrap_i64 (by omega) (by omega)) rfl trivial ?_
      | refine x_sub_ rfl rfl rfl (wrap_i64 (by omega) (by omega)) rfl trivial ?_
      | refine x_sub_ rfl rfl rfl (wrap_u32 (by omega) (by omega)) rfl trivial ?_
      | refine x_add rfl rfl rfl (wrap_u32 (by omega) (by omega)) rfl trivial ?_
      | refine x_peqn rfl rfl rfl rfl trivial ?_
      | refine x_pnen rfl rfl rfl rfl trivial ?_
      | refine x_mul rfl rfl rfl (wrap_i64 (by omega) (by omega)) rfl trivial ?_
      | refine x_ibin rfl rfl rfl rfl rfl trivial ?_
      | refine x_neg_ rfl rfl (wrap_i64 (by omega) (by omega)) rfl trivial ?_
      | refine x_len rfl rfl (by assumption) rfl trivial ?_
      | refine x_pick_t rfl rfl rfl rfl trivial ?_
      | refine x_pick_f rfl rfl rfl rfl trivial ?_
      | refine x_not rfl rfl rfl trivial ?_
      | refine x_beq rfl rfl rfl rfl trivial ?_
      | refine x_bne rfl rfl rfl rfl trivial ?_
      | refine x_extract rfl rfl rfl rfl trivial ?_
      | refine x_nilCheck rfl rfl rfl trivial ?_
      | refine x_fieldAddr rfl rfl rfl rfl trivial ?_
      | refine x_skip trivial rfl rfl rfl ?_
      | refine x_indexAddr1 rfl rfl rfl (by assumption) (by omega) (by omega) rfl trivial ?_
      | refine x_indexAddr rfl rfl rfl (by assumption) (by omega) (by omega) rfl trivial ?_
      | refine x_nil ?_
      | refine cw_seq ?_
      | refine nw_seq ?_
      | refine nw_block ?_
      | refine cw_block ?_
      | refine cw_skip ?_
      | refine cw_region ?_
      | refine cw_exit rfl ?_
      | refine cw_true rfl ?_
      | refine cw_false rfl ?_)
    refine x_load rfl rfl (hpmt (c2)) rfl trivial ?_
    repeat (first
      | refine x_move rfl rfl rfl trivial ?_
      | refine x_assign rfl rfl rfl trivial ?_
      | refine x_add rfl rfl rfl (wrap_i64 (by omega) (by omega)) rfl trivial ?_
      | refine x_sub_ rfl rfl rfl (wrap_i64 (by omega) (by omega)) rfl trivial ?_
      | refine x_sub_ rfl rfl rfl (wrap_u32 (by omega) (by omega)) rfl trivial ?_
      | refine x_add rfl rfl rfl (wrap_u32 (by omega) (by omega)) rfl trivial ?_
      | refine x_peqn rfl rfl rfl rfl trivial ?_
      | refine x_pnen rfl rfl rfl rfl trivial ?_
      | refine x_mul rfl rfl rfl (wrap_i64 (by omega) (by omega)) rfl trivial ?_
      | refine x_ibin rfl rfl rfl rfl rfl trivial ?_
      | refine x_neg_ rfl rfl (wrap_i64 (by omega) (by omega)) rfl trivial ?_
      | refine x_len rfl rfl (by assumption) rfl trivial ?_
      | refine x_pick_t rfl rfl rfl rfl trivial ?_
      | refine x_pick_f rfl rfl rfl rfl trivial ?_
      | refine x_not rfl rfl rfl trivial ?_
      | refine x_beq rfl rfl rfl rfl trivial ?_
      | refine x_bne rfl rfl rfl rfl trivial ?_
      | refine x_extract rfl rfl rfl rfl trivial ?_
      | refine x_nilCheck rfl rfl rfl trivial ?_
      | refine x_fieldAddr rfl rfl rfl rfl trivial ?_
      | refine x_skip trivial rfl rfl rfl ?_
      | refine x_indexAddr1 rfl rfl rfl (by assumption) (by omega) (by omega) rfl trivial ?_
      | refine x_indexAddr rfl rfl rfl (by assumption) (by omega) (by omega) rfl trivial ?_
      | refine x_nil ?_
      | refine cw_seq ?_
      | refine nw_seq ?_
      | refine nw_block ?_
      | refine cw_block ?_
      | refine cw_skip ?_
      | refine cw_region ?_
      | refine cw_exit rfl ?_
      | refine cw_true rfl ?_
      | refine cw_false rfl ?_)
    refine x_buildSlice rfl rfl rfl rfl (by omega) (by simp [oneC, Value.oneCell']) rfl trivial ?_
    intro H2 hn2
    refine ⟨trivial, ?_⟩
    have hM2 := hM1.keepN hn2.keep
    obtain ⟨q, hq1, hq2⟩ := hM2.hV.row
    refine x_append (v := vb) (by rfl) (by rfl) (by rfl) rfl rfl rfl hq2 (isSl_some (Nat.le_refl _) (by omega)) (m := 1) (cx := rws encU [h]) rfl (hn2.blk.cels 0 1 (by simp)) (rws_oneC (by simp [encU, oneC, Value.oneCell'])) (by omega) rfl trivial ?_
    intro v3 H3 hap
    refine ⟨trivial, ?_⟩
    obtain ⟨hM3, ar⟩ := hM2.appV hq1 hap
    repeat (first
      | refine x_move rfl rfl rfl trivial ?_
      | refine x_assign rfl rfl rfl trivial ?_
      | refine x_add rfl rfl rfl (wrap_i64 (by omega) (by omega)) rfl trivial ?_
      | refine x_sub_ rfl rfl rfl (wrap_i64 (by omega) (by omega)) rfl trivial ?_
      | refine x_sub_ rfl rfl rfl (wrap_u32 (by omega) (by omega)) rfl trivial ?_
      | refine x_add rfl rfl rfl (wrap_u32 (by omega) (by omega)) rfl trivial ?_
      | refine x_peqn rfl rfl rfl rfl trivial ?_
      | refine x_pnen rfl rfl rfl rfl trivial ?_
      | refine x_mul rfl rfl rfl (wrap_i64 (by omega) (by omega)) rfl trivial ?_
      | refine x_ibin rfl rfl rfl rfl rfl trivial ?_
      | refine x_neg_ rfl rfl (wrap_i64 (by omega) (by omega)) rfl trivial ?_
      | refine x_len rfl rfl (by assumption) rfl trivial ?_
      | refine x_pick_t rfl rfl rfl rfl trivial ?_
      | refine x_pick_f rfl rfl rfl rfl trivial ?_
      | refine x_not rfl rfl rfl trivial ?_
      | refine x_beq rfl rfl rfl rfl trivial ?_
      | refine x_bne rfl rfl rfl rfl trivial ?_
      | refine x_extract rfl rfl rfl rfl trivial ?_
      | refine x_nilCheck rfl rfl rfl trivial ?_
      | refine x_fieldAddr rfl rfl rfl rfl trivial ?_
      | refine x_skip trivial rfl rfl rfl ?_
      | refine x_indexAddr1 rfl rfl rfl (by assumption) (by omega) (by omega) rfl trivial ?_
      | refine x_indexAddr rfl rfl rfl (by assumption) (by omega) (by omega) rfl trivial ?_
      | refine x_nil ?_
      | refine cw_seq ?_
      | refine nw_seq ?_
      | refine nw_block ?_
      | refine cw_block ?_
      | refine cw_skip ?_
      | refine cw_region ?_
      | refine cw_exit rfl ?_
      | refine cw_true rfl ?_
      | refine cw_false rfl ?_)
    refine x_store rfl rfl rfl (isSl_oneC hM3.hV.sl) hM3.hb (by simp) trivial ?_
    intro H4 hB4 hk4 hs4
    refine ⟨trivial, ?_⟩
    have hM4 := hM3.own hB4 hk4
    repeat (first
      | refine x_move rfl rfl rfl trivial ?_
      | refine x_assign rfl rfl rfl trivial ?_
      | refine x_add rfl rfl rfl (wrap_i64 (by omega) (by omega)) rfl trivial ?_
      | refine x_sub_ rfl rfl rfl (wrap_i64 (by omega) (by omega)) rfl trivial ?_
      | refine x_sub_ rfl rfl rfl (wrap_u32 (by omega) (by omega)) rfl trivial ?_
      | refine x_add rfl rfl rfl (wrap_u32 (by omega) (by omega)) rfl trivial ?_
      | refine x_peqn rfl rfl rfl rfl trivial ?_
      | refine x_pnen rfl rfl rfl rfl trivial ?_
      | refine x_mul rfl rfl rfl (wrap_i64 (by omega) (by omega)) rfl trivial ?_
      | refine x_ibin rfl rfl rfl rfl rfl trivial ?_
      | refine x_neg_ rfl rfl (wrap_i64 (by omega) (by omega)) rfl trivial ?_
      | refine x_len rfl rfl (by assumption) rfl trivial ?_
      | refine x_pick_t rfl rfl rfl rfl trivial ?_
      | refine x_pick_f rfl rfl rfl rfl trivial ?_
      | refine x_not rfl rfl rfl trivial ?_
      | refine x_beq rfl rfl rfl rfl trivial ?_
      | refine x_bne rfl rfl rfl rfl trivial ?_
      | refine x_extract rfl rfl rfl rfl trivial ?_
      | refine x_nilCheck rfl rfl rfl trivial ?_
      | refine x_fieldAddr rfl rfl rfl rfl trivial ?_
      | refine x_skip trivial rfl rfl rfl ?_
      | refine x_indexAddr1 rfl rfl rfl (by assumption) (by omega) (by omega) rfl trivial ?_
      | refine x_indexAddr rfl rfl rfl (by assumption) (by omega) (by omega) rfl trivial ?_
      | refine x_nil ?_
      | refine cw_seq ?_
      | refine nw_seq ?_
      | refine nw_block ?_
      | refine cw_block ?_
      | refine cw_skip ?_
      | refine cw_region ?_
      | refine cw_exit rfl ?_
      | refine cw_true rfl ?_
      | refine cw_false rfl ?_)
    have kc := hM.kc hpos
    have k1 := hM.kb
    have h3 := ar.keep.size
    have h2 := hn2.keep.size
    refine cw_ret1 rfl rfl ⟨rfl, (((hk1.mono fun c _ e => ?_).step hn2.keep fun _ _ h => h.elim).step ar.keep fun c _ e => ?_).step hk4 fun c _ e => ?_, _, ⟨fun x hx => ar.old x (by omega), by omega⟩, vc, v3, hM4⟩
    · show K c ≠ 0
      rw [e, kc]
      omega
    · show K c ≠ 0
      rw [e.1, hM.kv e.2]
      omega
    · show K c ≠ 0
      rw [e, k1]
      omega
/-- words of one's own, that come in at a place -/
theorem role_new {K : Role} {H H' : Heap} {c : Value} {n r : Nat} {cs : List Value} (hK : K.In H) (hk : Keep Non H H') (ho : Own 1 H' c n cs) (hf : Fresh H c) : ∃ K1 : Role, K1.In H' ∧ (∀ x, x < H.size → K1 x = K x) ∧ (0 < sc c → K1 (sb c) = r) := by
  by_cases hc : 0 < sc c
  · have h1 := ho.lt hc
    have h2 := hf hc
    exact ⟨K.set (sb c) r, (hK.mono hk.size).set h1, fun x hx => Role.set_ne K (by omega), fun _ => Role.set_at _ _ _⟩
  · exact ⟨K, hK.mono hk.size, fun x _ => rfl, fun h => absurd h hc⟩
theorem hdl_append (l m : List Ce) (n : Nat) : hdl (l ++ m) n = hdl l n ++ hdl m (n + l.length) := by
  induction l generalizing n with
  | nil => simp [hdl]
  | cons x l ih =>
    simp only [List.cons_append, hdl, ih, List.length_cons, List.append_assoc]
    congr 3
    omega
theorem hdl_length (l : List Ce) (n : Nat) : (hdl l n).length = takenA l := by
  induction l generalizing n with
  | nil => rfl
  | cons x l ih =>
    simp only [hdl, List.length_append, ih, takenA, List.filter_cons]
    cases x.2 <;> simp <;> omega
theorem hdl_take {l : List Ce} {i : Nat} {x : Ce} (h : l[i]? = some x) : hdl (l.take (i + 1)) 1 = hdl (l.take i) 1 ++ if x.2 then [i + 1] else [] := by
  rw [List.take_add_one, h, hdl_append]
  have := (List.getElem?_eq_some_iff.1 h).1
  simp only [Option.toList_some, hdl, List.append_nil, List.length_take]
  rw [Nat.min_eq_left (by omega), Nat.add_comm]

theorem arena_Take {K : Role} {b : Nat} {vl : Value} {ws : List Int} {a : Ar} {H : Heap} (hS : Sa K H b a) (hw : a.Wf) (hL : Ws H vl ws) (hll : ws.length ≤ 1000000) (hl : a.cs.length ≤ 1000000) (hbl : a.back.length ≤ 1000000) :
    Ret Try.prog 10 [ptr b 0, vl] H (fun v H' => v = .tuple #[.int .u32 (takeA a ws).1, .int .i64 (takeA a ws).2.1] ∧ Keep (MutA K) H H' ∧ ∃ K', K.Ext K' H H' ∧ Sa K' H' b (takeA a ws).2.2) := by
  have hS0 := hS
  obtain ⟨vc, vb, hM⟩ := hS
  have sL := hL.1
  have cL := sL.cap
  have k1 := hM.kb
  refine ret_of Try.func10 rfl rfl rfl rfl ?_
  intro w0
  repeat (first
    | refine x_move rfl rfl rfl trivial ?_
    | refine x_assign rfl rfl rfl trivial ?_
    | refine x_add rfl rfl rfl (wrap_i64 (by omega) (by omega)) rfl trivial ?_
    | refine x_sub_ rfl rfl rfl (wrap_i64 (by omega) (by omega)) rfl trivial ?_
    | refine x_sub_ rfl rfl rfl (wrap_u32 (by omega) (by omega)) rfl trivial ?_
    | refine x_add rfl rfl rfl (wrap_u32 (by omega) (by omega)) rfl trivial ?_
    | refine x_peqn rfl rfl rfl rfl trivial ?_
    | refine x_pnen rfl rfl rfl rfl trivial ?_
    | refine x_mul rfl rfl rfl (wrap_i64 (by omega) (by omega)) rfl trivial ?_
    | refine x_ibin rfl rfl rfl rfl rfl trivial ?_
    | refine x_neg_ rfl rfl (wrap_i64 (by omega) (by omega)) rfl trivial ?_
    | refine x_len rfl rfl (by assumption) rfl trivial ?_
    | refine x_pick_t rfl rfl rfl rfl trivial ?_
    | refine x_pick_f rfl rfl rfl rfl trivial ?_
    | refine x_not rfl rfl rfl trivial ?_
    | refine x_beq rfl rfl rfl rfl trivial ?_
    | refine x_bne rfl rfl rfl rfl trivial ?_
    | refine x_extract rfl rfl rfl rfl trivial ?_
    | refine x_nilCheck rfl rfl rfl trivial ?_
    | refine x_fieldAddr rfl rfl rfl rfl trivial ?_
    | refine x_skip trivial rfl rfl rfl ?_
    | refine x_indexAddr1 rfl rfl rfl (by assumption) (by omega) (by omega) rfl trivial ?_
    | refine x_indexAddr rfl rfl rfl (by assumption) (by omega) (by omega) rfl trivial ?_
    | refine x_nil ?_
    | refine cw_seq ?_
    | refine nw_seq ?_
    | refine nw_block ?_
    | refine cw_block ?_
    | refine cw_skip ?_
    | refine cw_region ?_
    | refine cw_exit rfl ?_
    | refine cw_true rfl ?_
    | refine cw_false rfl ?_)
  refine cw_cond rfl (fun h64 => ?_) (fun h64 => ?_) <;> (try simp at h64)
  · have e : takeA a ws = (0, 2, a) := by unfold takeA; rw [if_pos (by omega)]
    rw [e]
    repeat (first
      | refine x_move rfl rfl rfl trivial ?_
      | refine x_assign rfl rfl rfl trivial ?_
      | refine x_add rfl rfl rfl (wrap_i64 (by omega) (by omega)) rfl trivial ?_
      | refine x_sub_ rfl rfl rfl (wrap_i64 (by omega) (by omega)) rfl trivial ?_
      | refine x_sub_ rfl rfl rfl (wrap_u32 (by omega) (by omega)) rfl trivial ?_
      | refine x_add rfl rfl rfl (wrap_u32 (by omega) (by omega)) rfl trivial ?_
      | refine x_peqn rfl rfl rfl rfl trivial ?_
      | refine x_pnen rfl rfl rfl rfl trivial ?_
      | refine x_mul rfl rfl rfl (wrap_i64 (by omega) (by omega)) rfl trivial ?_
      | refine x_ibin rfl rfl rfl rfl rfl trivial ?_
      | refine x_neg_ rfl rfl (wrap_i64 (by omega) (by omega)) rfl trivial ?_
      | refine x_len rfl rfl (by assumption) rfl trivial ?_
      | refine x_pick_t rfl rfl rfl rfl trivial ?_
      | refine x_pick_f rfl rfl rfl rfl trivial ?_
      | refine x_not rfl rfl rfl trivial ?_
      | refine x_beq rfl rfl rfl rfl trivial ?_
      | refine x_bne rfl rfl rfl rfl trivial ?_
      | refine x_extract rfl rfl rfl rfl trivial ?_
      | refine x_nilCheck rfl rfl rfl trivial ?_
      | refine x_fieldAddr rfl rfl rfl rfl trivial ?_
      | refine x_skip trivial rfl rfl rfl ?_
      | refine x_indexAddr1 rfl rfl rfl (by assumption) (by omega) (by omega) rfl trivial ?_
      | refine x_indexAddr rfl rfl rfl (by assumption) (by omega) (by omega) rfl trivial ?_
      | refine x_nil ?_
      | refine cw_seq ?_
      | refine nw_seq ?_
      | refine nw_block ?_
      | refine cw_block ?_
      | refine cw_skip ?_
      | refine cw_region ?_
      | refine cw_exit rfl ?_
      | refine cw_true rfl ?_
      | refine cw_false rfl ?_)
    exact cw_ret2 rfl rfl rfl ⟨rfl, Keep.refl _ _, K, Role.Ext.refl _ _, hS0⟩
  · repeat (first
      | refine x_move rfl rfl rfl trivial ?_
      | refine x_assign rfl rfl rfl trivial ?_
      | refine x_add rfl rfl rfl (wrap_i64 (by omega) (by omega)) rfl trivial ?_
      | refine x_sub_ rfl rfl rfl (wrap_i64 (by omega) (by omega)) rfl trivial ?_
      | refine x_sub_ rfl rfl rfl (wrap_u32 (by omega) (by omega)) rfl trivial ?_
      | refine x_add rfl rfl rfl (wrap_u32 (by omega) (by omega)) rfl trivial ?_
      | refine x_peqn rfl rfl rfl rfl trivial ?_
      | refine x_pnen rfl rfl rfl rfl trivial ?_
      | refine x_mul rfl rfl rfl (wrap_i64 (by omega) (by omega)) rfl trivial ?_
      | refine x_ibin rfl rfl rfl rfl rfl trivial ?_
      | refine x_neg_ rfl rfl (wrap_i64 (by omega) (by omega)) rfl trivial ?_
      | refine x_len rfl rfl (by assumption) rfl trivial ?_
      | refine x_pick_t rfl rfl rfl rfl trivial ?_
      | refine x_pick_f rfl rfl rfl rfl trivial ?_
      | refine x_not rfl rfl rfl trivial ?_
      | refine x_beq rfl rfl rfl rfl trivial ?_
      | refine x_bne rfl rfl rfl rfl trivial ?_
      | refine x_extract rfl rfl rfl rfl trivial ?_
      | refine x_nilCheck rfl rfl rfl trivial ?_
      | refine x_fieldAddr rfl rfl rfl rfl trivial ?_
      | refine x_skip trivial rfl rfl rfl ?_
      | refine x_indexAddr1 rfl rfl rfl (by assumption) (by omega) (by omega) rfl trivial ?_
      | refine x_indexAddr rfl rfl rfl (by assumption) (by omega) (by omega) rfl trivial ?_
      | refine x_nil ?_
      | refine cw_seq ?_
      | refine nw_seq ?_
      | refine nw_block ?_
      | refine cw_block ?_
      | refine cw_skip ?_
      | refine cw_region ?_
      | refine cw_exit rfl ?_
      | refine cw_true rfl ?_
      | refine cw_false rfl ?_)
    refine x_call rfl rfl rfl trivial (arena_Free hS0 hw hl hbl) ?_
    rintro _ _ ⟨rfl, rfl⟩
    refine ⟨trivial, ?_⟩
    repeat (first
      | refine x_move rfl rfl rfl trivial ?_
      | refine x_assign rfl rfl rfl trivial ?_
      | refine x_add rfl rfl rfl (wrap_i64 (by omega) (by omega)) rfl trivial ?_
      | refine x_sub_ rfl rfl rfl (wrap_i64 (by omega) (by omega)) rfl trivial ?_
      | refine x_sub_ rfl rfl rfl (wrap_u32 (by omega) (by omega)) rfl trivial ?_
      | refine x_add rfl rfl rfl (wrap_u32 (by omega) (by omega)) rfl trivial ?_
      | refine x_peqn rfl rfl rfl rfl trivial ?_
      | refine x_pnen rfl rfl rfl rfl trivial ?_
      | refine x_mul rfl rfl rfl (wrap_i64 (by omega) (by omega)) rfl trivial ?_
      | refine x_ibin rfl rfl rfl rfl rfl trivial ?_
      | refine x_neg_ rfl rfl (wrap_i64 (by omega) (by omega)) rfl trivial ?_
      | refine x_len rfl rfl (by assumption) rfl trivial ?_
      | refine x_pick_t rfl rfl rfl rfl trivial ?_
      | refine x_pick_f rfl rfl rfl rfl trivial ?_
      | refine x_not rfl rfl rfl trivial ?_
      | refine x_beq rfl rfl rfl rfl trivial ?_
      | refine x_bne rfl rfl rfl rfl trivial ?_
      | refine x_extract rfl rfl rfl rfl trivial ?_
      | refine x_nilCheck rfl rfl rfl trivial ?_
      | refine x_fieldAddr rfl rfl rfl rfl trivial ?_
      | refine x_skip trivial rfl rfl rfl ?_
      | refine x_indexAddr1 rfl rfl rfl (by assumption) (by omega) (by omega) rfl trivial ?_
      | refine x_indexAddr rfl rfl rfl (by assumption) (by omega) (by omega) rfl trivial ?_
      | refine x_nil ?_
      | refine cw_seq ?_
      | refine nw_seq ?_
      | refine nw_block ?_
      | refine cw_block ?_
      | refine cw_skip ?_
      | refine cw_region ?_
      | refine cw_exit rfl ?_
      | refine cw_true rfl ?_
      | refine cw_false rfl ?_)
    refine cw_cond rfl (fun hfull => ?_) (fun hfull => ?_) <;> (try simp at hfull)
    · have e : takeA a ws = (0, 4, a) := by unfold takeA; rw [if_neg (by omega), if_pos hfull]
      rw [e]
      repeat (first
        | refine x_move rfl rfl rfl trivial ?_
        | refine x_assign rfl rfl rfl trivial ?_
        | refine x_add rfl rfl rfl (wrap_i64 (by omega) (by omega)) rfl trivial ?_
        | refine x_sub_ rfl rfl rfl (wrap_i64 (by omega) (by omega)) rfl trivial ?_
        | refine x_sub_ rfl rfl rfl (wrap_u32 (by omega) (by omega)) rfl trivial ?_
        | refine x_add rfl rfl rfl (wrap_u32 (by omega) (by omega)) rfl trivial ?_
        | refine x_peqn rfl rfl rfl rfl trivial ?_
        | refine x_pnen rfl rfl rfl rfl trivial ?_
        | refine x_mul rfl rfl rfl (wrap_i64 (by omega) (by omega)) rfl trivial ?_
        | refine x_ibin rfl rfl rfl rfl rfl trivial ?_
        | refine x_neg_ rfl rfl (wrap_i64 (by omega) (by omega)) rfl trivial ?_
        | refine x_len rfl rfl (by assumption) rfl trivial ?_
        | refine x_pick_t rfl rfl rfl rfl trivial ?_
        | refine x_pick_f rfl rfl rfl rfl trivial ?_
        | refine x_not rfl rfl rfl trivial ?_
        | refine x_beq rfl rfl rfl rfl trivial ?_
        | refine x_bne rfl rfl rfl rfl trivial ?_
        | refine x_extract rfl rfl rfl rfl trivial ?_
        | refine x_nilCheck rfl rfl rfl trivial ?_
        | refine x_fieldAddr rfl rfl rfl rfl trivial ?_
        | refine x_skip trivial rfl rfl rfl ?_
        | refine x_indexAddr1 rfl rfl rfl (by assumption) (by omega) (by omega) rfl trivial ?_
        | refine x_indexAddr rfl rfl rfl (by assumption) (by omega) (by omega) rfl trivial ?_
        | refine x_nil ?_
        | refine cw_seq ?_
        | refine nw_seq ?_
        | refine nw_block ?_
        | refine cw_block ?_
        | refine cw_skip ?_
        | refine cw_region ?_
        | refine cw_exit rfl ?_
        | refine cw_true rfl ?_
        | refine cw_false rfl ?_)
      exact cw_ret2 rfl rfl rfl ⟨rfl, Keep.refl _ _, K, Role.Ext.refl _ _, hS0⟩
    · repeat (first
        | refine x_move rfl rfl rfl trivial ?_
        | refine x_assign rfl rfl rfl trivial ?_
        | refine x_add rfl rfl rfl (wrap_i64 (by omega) (by omega)) rfl trivial ?_
        | refine x_sub_ rfl rfl rfl (wrap_i64 (by omega) (by omega)) rfl trivial ?_
        | refine x_sub_ rfl rfl rfl (wrap_u32 (by omega) (by omega)) rfl trivial ?_
        | refine x_add rfl rfl rfl (wrap_u32 (by omega) (by omega)) rfl trivial ?_
        | refine x_peqn rfl rfl rfl rfl trivial ?_
        | refine x_pnen rfl rfl rfl rfl trivial ?_
        | refine x_mul rfl rfl rfl (wrap_i64 (by omega) (by omega)) rfl trivial ?_
        | refine x_ibin rfl rfl rfl rfl rfl trivial ?_
        | refine x_neg_ rfl rfl (wrap_i64 (by omega) (by omega)) rfl trivial ?_
        | refine x_len rfl rfl (by assumption) rfl trivial ?_
        | refine x_pick_t rfl rfl rfl rfl trivial ?_
        | refine x_pick_f rfl rfl rfl rfl trivial ?_
        | refine x_not rfl rfl rfl trivial ?_
        | refine x_beq rfl rfl rfl rfl trivial ?_
        | refine x_bne rfl rfl rfl rfl trivial ?_
        | refine x_extract rfl rfl rfl rfl trivial ?_
        | refine x_nilCheck rfl rfl rfl trivial ?_
        | refine x_fieldAddr rfl rfl rfl rfl trivial ?_
        | refine x_skip trivial rfl rfl rfl ?_
        | refine x_indexAddr1 rfl rfl rfl (by assumption) (by omega) (by omega) rfl trivial ?_
        | refine x_indexAddr rfl rfl rfl (by assumption) (by omega) (by omega) rfl trivial ?_
        | refine x_nil ?_
        | refine cw_seq ?_
        | refine nw_seq ?_
        | refine nw_block ?_
        | refine cw_block ?_
        | refine cw_skip ?_
        | refine cw_region ?_
        | refine cw_exit rfl ?_
        | refine cw_true rfl ?_
        | refine cw_false rfl ?_)
      refine x_call rfl rfl rfl trivial (slices_CloneW hL hll) ?_
      rintro c H2 ⟨hk2, hown, hfc⟩
      refine ⟨trivial, ?_⟩
      have hcO := isSl_oneC hown.sl
      refine x_build (cs := [c, .bool true]) rfl rfl rfl (ocp_cons hcO (ocp_cons rfl ocp_nil)) rfl trivial ?_
      refine x_alloc rfl rfl trivial ?_
      intro H3 hn3
      refine ⟨trivial, ?_⟩
      refine x_stores rfl rfl rfl rfl (oc_cons hcO (oc_cons rfl oc_nil)) hn3.blk (by simp) trivial ?_
      intro H4 hB4 hk4 hs4
      refine ⟨trivial, ?_⟩
      have hB4 : Blk H4 H2.size [c, .bool true] := hB4
      have k24 : Keep Non H2 H4 := keep_at hn3.keep hk4 (Nat.le_refl _)
      have k04 := hk2.non_trans k24
      have hs3 := hn3.size
      have hown4 : Own 1 H4 c ws.length (u64s ws) := hown.keep k24 (fun _ h => h)
      have hM4 := hM.keepN k04
      have s04 := k04.size
      have s02 := hk2.size
      have hKs : ∀ x, K x ≠ 0 → x < H.size := fun x hx => hM.kin x hx
      have c2 : cel H4 b 2 = some vb := by rw [hM4.hb.cel]; rfl
      repeat (first
        | refine x_move rfl rfl rfl trivial ?_
        | refine x_assign rfl rfl rfl trivial ?_
        | refine x_add rfl rfl rfl (wrap_i64 (by omega) (by omega)) rfl trivial ?_
        | refine x_sub_ rfl rfl rfl (wrap_i64 (by omega) (by omega)) rfl trivial ?_
        | refine x_sub_ rfl rfl rfl (wrap_u32 (by omega) (by omega)) rfl trivial ?_
        | refine x_add rfl rfl rfl (wrap_u32 (by omega) (by omega)) rfl trivial ?_
        | refine x_peqn rfl rfl rfl rfl trivial ?_
        | refine x_pnen rfl rfl rfl rfl trivial ?_
        | refine x_mul rfl rfl rfl (wrap_i64 (by omega) (by omega)) rfl trivial ?_
        | refine x_ibin rfl rfl rfl rfl rfl trivial ?_
        | refine x_neg_ rfl rfl (wrap_i64 (by omega) (by omega)) rfl trivial ?_
        | refine x_len rfl rfl (by assumption) rfl trivial ?_
        | refine x_pick_t rfl rfl rfl rfl trivial ?_
        | refine x_pick_f rfl rfl rfl rfl trivial ?_
        | refine x_not rfl rfl rfl trivial ?_
        | refine x_beq rfl rfl rfl rfl trivial ?_
        | refine x_bne rfl rfl rfl rfl trivial ?_
        | refine x_extract rfl rfl rfl rfl trivial ?_
        | refine x_nilCheck rfl rfl rfl trivial ?_
        | refine x_fieldAddr rfl rfl rfl rfl trivial ?_
        | refine x_skip trivial rfl rfl rfl ?_
        | refine x_indexAddr1 rfl rfl rfl (by assumption) (by omega) (by omega) rfl trivial ?_
        | refine x_indexAddr rfl rfl rfl (by assumption) (by omega) (by omega) rfl trivial ?_
        | refine x_nil ?_
        | refine cw_seq ?_
        | refine nw_seq ?_
        | refine nw_block ?_
        | refine cw_block ?_
        | refine cw_skip ?_
        | refine cw_region ?_
        | refine cw_exit rfl ?_
        | refine cw_true rfl ?_
        | refine cw_false rfl ?_)
      refine x_load rfl rfl (hpmt (c2)) rfl trivial ?_
      have sB := hM4.hV.sl
      have cB := sB.cap
      repeat (first
        | refine x_move rfl rfl rfl trivial ?_
        | refine x_assign rfl rfl rfl trivial ?_
        | refine x_add rfl rfl rfl (wrap_i64 (by omega) (by omega)) rfl trivial ?_
        | refine x_sub_ rfl rfl rfl (wrap_i64 (by omega) (by omega)) rfl trivial ?_
        | refine x_sub_ rfl rfl rfl (wrap_u32 (by omega) (by omega)) rfl trivial ?_
        | refine x_add rfl rfl rfl (wrap_u32 (by omega) (by omega)) rfl trivial ?_
        | refine x_peqn rfl rfl rfl rfl trivial ?_
        | refine x_pnen rfl rfl rfl rfl trivial ?_
        | refine x_mul rfl rfl rfl (wrap_i64 (by omega) (by omega)) rfl trivial ?_
        | refine x_ibin rfl rfl rfl rfl rfl trivial ?_
        | refine x_neg_ rfl rfl (wrap_i64 (by omega) (by omega)) rfl trivial ?_
        | refine x_len rfl rfl (by assumption) rfl trivial ?_
        | refine x_pick_t rfl rfl rfl rfl trivial ?_
        | refine x_pick_f rfl rfl rfl rfl trivial ?_
        | refine x_not rfl rfl rfl trivial ?_
        | refine x_beq rfl rfl rfl rfl trivial ?_
        | refine x_bne rfl rfl rfl rfl trivial ?_
        | refine x_extract rfl rfl rfl rfl trivial ?_
        | refine x_nilCheck rfl rfl rfl trivial ?_
        | refine x_fieldAddr rfl rfl rfl rfl trivial ?_
        | refine x_skip trivial rfl rfl rfl ?_
        | refine x_indexAddr1 rfl rfl rfl (by assumption) (by omega) (by omega) rfl trivial ?_
        | refine x_indexAddr rfl rfl rfl (by assumption) (by omega) (by omega) rfl trivial ?_
        | refine x_nil ?_
        | refine cw_seq ?_
        | refine nw_seq ?_
        | refine nw_block ?_
        | refine cw_block ?_
        | refine cw_skip ?_
        | refine cw_region ?_
        | refine cw_exit rfl ?_
        | refine cw_true rfl ?_
        | refine cw_false rfl ?_)
      cases hb : a.back.getLast? with
      | some h =>
        obtain ⟨g1, g2, g3⟩ := backA_last hw hb
        obtain ⟨m, hm'⟩ : ∃ m, a.back.length = m + 1 := ⟨a.back.length - 1, by
          have : a.back ≠ [] := by intro e; rw [e] at hb; cases hb
          have := List.length_pos_iff.2 this
          omega⟩
        have hbm : a.back[m]? = some h := by
          rw [List.getLast?_eq_getElem?] at hb
          rw [hm'] at hb
          simpa using hb
        have e : takeA a ws = (((h : Nat) : Int), 0, ⟨a.most, a.cs.set (h - 1) (ws, true), a.back.dropLast⟩) := by
          unfold takeA
          rw [if_neg (by omega), if_neg hfull, hb]
        rw [e]
        obtain ⟨y, hy, hc0⟩ := hM4.hV.rd.cel1 encU_len hbm
        rw [hy] at hc0
        obtain ⟨j, rfl⟩ : ∃ j, h = j + 1 := ⟨h - 1, by omega⟩
        have ej : ((j + 1 : Nat) : Int) - 1 = (j : Int) := by omega
        have em : ((m + 1 : Nat) : Int) - 1 = (m : Int) := by omega
        rw [hm'] at sB cB ⊢
        refine cw_cond rfl (fun _ => ?_) (fun h => absurd h (by simp))
        repeat (first
          | refine x_move rfl rfl rfl trivial ?_
          | refine x_assign rfl rfl rfl trivial ?_
          | refine x_add rfl rfl rfl (wrap_i64 (by omega) (by omega)) rfl trivial ?_
          | refine x_sub_ rfl rfl rfl (wrap_i64 (by omega) (by omega)) rfl trivial ?_
          | refine x_sub_ rfl rfl rfl (wrap_u32 (by omega) (by omega)) rfl trivial ?_
          | refine x_add rfl rfl rfl (wrap_u32 (by omega) (by omega)) rfl trivial ?_
          | refine x_peqn rfl rfl rfl rfl trivial ?_
          | refine x_pnen rfl rfl rfl rfl trivial ?_
          | refine x_mul rfl rfl rfl (wrap_i64 (by omega) (by omega)) rfl trivial ?_
          | refine x_ibin rfl rfl rfl rfl rfl trivial ?_
          | refine x_neg_ rfl rfl (wrap_i64 (by omega) (by omega)) rfl trivial ?_
          | refine x_len rfl rfl (by assumption) rfl trivial ?_
          | refine x_pick_t rfl rfl rfl rfl trivial ?_
          | refine x_pick_f rfl rfl rfl rfl trivial ?_
          | refine x_not rfl rfl rfl trivial ?_
          | refine x_beq rfl rfl rfl rfl trivial ?_
          | refine x_bne rfl rfl rfl rfl trivial ?_
          | refine x_extract rfl rfl rfl rfl trivial ?_
          | refine x_nilCheck rfl rfl rfl trivial ?_
          | refine x_fieldAddr rfl rfl rfl rfl trivial ?_
          | refine x_skip trivial rfl rfl rfl ?_
          | refine x_indexAddr1 rfl rfl rfl (by assumption) (by omega) (by omega) rfl trivial ?_
          | refine x_indexAddr rfl rfl rfl (by assumption) (by omega) (by omega) rfl trivial ?_
          | refine x_nil ?_
          | refine cw_seq ?_
          | refine nw_seq ?_
          | refine nw_block ?_
          | refine cw_block ?_
          | refine cw_skip ?_
          | refine cw_region ?_
          | refine cw_exit rfl ?_
          | refine cw_true rfl ?_
          | refine cw_false rfl ?_)
        refine x_load rfl rfl (hpmt (c2)) rfl trivial ?_
        repeat (first
          | refine x_move rfl rfl rfl trivial ?_
          | refine x_assign rfl rfl rfl trivial ?_
          | refine x_add rfl rfl rfl (wrap_i64 (by omega) (by omega)) rfl trivial ?_
          | refine x_sub_ rfl rfl rfl (wrap_i64 (by omega) (by omega)) rfl trivial ?_
          | refine x_sub_ rfl rfl rfl (wrap_u32 (by omega) (by omega)) rfl trivial ?_
          | refine x_add rfl rfl rfl (wrap_u32 (by omega) (by omega)) rfl trivial ?_
          | refine x_peqn rfl rfl rfl rfl trivial ?_
          | refine x_pnen rfl rfl rfl rfl trivial ?_
          | refine x_mul rfl rfl rfl (wrap_i64 (by omega) (by omega)) rfl trivial ?_
          | refine x_ibin rfl rfl rfl rfl rfl trivial ?_
          | refine x_neg_ rfl rfl (wrap_i64 (by omega) (by omega)) rfl trivial ?_
          | refine x_len rfl rfl (by assumption) rfl trivial ?_
          | refine x_pick_t rfl rfl rfl rfl trivial ?_
          | refine x_pick_f rfl rfl rfl rfl trivial ?_
          | refine x_not rfl rfl rfl trivial ?_
          | refine x_beq rfl rfl rfl rfl trivial ?_
          | refine x_bne rfl rfl rfl rfl trivial ?_
          | refine x_extract rfl rfl rfl rfl trivial ?_
          | refine x_nilCheck rfl rfl rfl trivial ?_
          | refine x_fieldAddr rfl rfl rfl rfl trivial ?_
          | refine x_skip trivial rfl rfl rfl ?_
          | refine x_indexAddr1 rfl rfl rfl (by assumption) (by omega) (by omega) rfl trivial ?_
          | refine x_indexAddr rfl rfl rfl (by assumption) (by omega) (by omega) rfl trivial ?_
          | refine x_nil ?_
          | refine cw_seq ?_
          | refine nw_seq ?_
          | refine nw_block ?_
          | refine cw_block ?_
          | refine cw_skip ?_
          | refine cw_region ?_
          | refine cw_exit rfl ?_
          | refine cw_true rfl ?_
          | refine cw_false rfl ?_)
        rw [em]
        refine x_load rfl rfl (hpmt (hc0)) rfl trivial ?_
        repeat (first
          | refine x_move rfl rfl rfl trivial ?_
          | refine x_assign rfl rfl rfl trivial ?_
          | refine x_add rfl rfl rfl (wrap_i64 (by omega) (by omega)) rfl trivial ?_
          | refine x_sub_ rfl rfl rfl (wrap_i64 (by omega) (by omega)) rfl trivial ?_
          | refine x_sub_ rfl rfl rfl (wrap_u32 (by omega) (by omega)) rfl trivial ?_
          | refine x_add rfl rfl rfl (wrap_u32 (by omega) (by omega)) rfl trivial ?_
          | refine x_peqn rfl rfl rfl rfl trivial ?_
          | refine x_pnen rfl rfl rfl rfl trivial ?_
          | refine x_mul rfl rfl rfl (wrap_i64 (by omega) (by omega)) rfl trivial ?_
          | refine x_ibin rfl rfl rfl rfl rfl trivial ?_
          | refine x_neg_ rfl rfl (wrap_i64 (by omega) (by omega)) rfl trivial ?_
          | refine x_len rfl rfl (by assumption) rfl trivial ?_
          | refine x_pick_t rfl rfl rfl rfl trivial ?_
          | refine x_pick_f rfl rfl rfl rfl trivial ?_
          | refine x_not rfl rfl rfl trivial ?_
          | refine x_beq rfl rfl rfl rfl trivial ?_
          | refine x_bne rfl rfl rfl rfl trivial ?_
          | refine x_extract rfl rfl rfl rfl trivial ?_
          | refine x_nilCheck rfl rfl rfl trivial ?_
          | refine x_fieldAddr rfl rfl rfl rfl trivial ?_
          | refine x_skip trivial rfl rfl rfl ?_
          | refine x_indexAddr1 rfl rfl rfl (by assumption) (by omega) (by omega) rfl trivial ?_
          | refine x_indexAddr rfl rfl rfl (by assumption) (by omega) (by omega) rfl trivial ?_
          | refine x_nil ?_
          | refine cw_seq ?_
          | refine nw_seq ?_
          | refine nw_block ?_
          | refine cw_block ?_
          | refine cw_skip ?_
          | refine cw_region ?_
          | refine cw_exit rfl ?_
          | refine cw_true rfl ?_
          | refine cw_false rfl ?_)
        refine x_load rfl rfl (hpmt (c2)) rfl trivial ?_
        repeat (first
          | refine x_move rfl rfl rfl trivial ?_
          | refine x_assign rfl rfl rfl trivial ?_
          | refine x_add rfl rfl rfl (wrap_i64 (by omega) (by omega)) rfl trivial ?_
          | refine x_sub_ rfl rfl rfl (wrap_i64 (by omega) (by omega)) rfl trivial ?_
          | refine x_sub_ rfl rfl rfl (wrap_u32 (by omega) (by omega)) rfl trivial ?_
          | refine x_add rfl rfl rfl (wrap_u32 (by omega) (by omega)) rfl trivial ?_
          | refine x_peqn rfl rfl rfl rfl trivial ?_
          | refine x_pnen rfl rfl rfl rfl trivial ?_
          | refine x_mul rfl rfl rfl (wrap_i64 (by omega) (by omega)) rfl trivial ?_
          | refine x_ibin rfl rfl rfl rfl rfl trivial ?_
          | refine x_neg_ rfl rfl (wrap_i64 (by omega) (by omega)) rfl trivial ?_
          | refine x_len rfl rfl (by assumption) rfl trivial ?_
          | refine x_pick_t rfl rfl rfl rfl trivial ?_
          | refine x_pick_f rfl rfl rfl rfl trivial ?_
          | refine x_not rfl rfl rfl trivial ?_
          | refine x_beq rfl rfl rfl rfl trivial ?_
          | refine x_bne rfl rfl rfl rfl trivial ?_
          | refine x_extract rfl rfl rfl rfl trivial ?_
          | refine x_nilCheck rfl rfl rfl trivial ?_
          | refine x_fieldAddr rfl rfl rfl rfl trivial ?_
          | refine x_skip trivial rfl rfl rfl ?_
          | refine x_indexAddr1 rfl rfl rfl (by assumption) (by omega) (by omega) rfl trivial ?_
          | refine x_indexAddr rfl rfl rfl (by assumption) (by omega) (by omega) rfl trivial ?_
          | refine x_nil ?_
          | refine cw_seq ?_
          | refine nw_seq ?_
          | refine nw_block ?_
          | refine cw_block ?_
          | refine cw_skip ?_
          | refine cw_region ?_
          | refine cw_exit rfl ?_
          | refine cw_true rfl ?_
          | refine cw_false rfl ?_)
        rw [em]
        refine x_slice_h rfl rfl rfl sB (by omega) (by omega) rfl trivial ?_
        intro u hu' hcut
        have hdl : a.back.take m = a.back.dropLast := by rw [List.dropLast_eq_take, hm', Nat.add_sub_cancel]
        have hU : Rw encU 1 Eq H4 u a.back.dropLast := by
          rw [← hdl]
          exact hM4.hV.shrink encU_len hu' hcut (by omega)
        have hposb : 0 < sc vb := by omega
        have hsu : 0 < sc u → K (sb u) = 3 := fun _ => by rw [(hcut.at_ hposb).1]; exact hM.kv hposb
        have hM4' : Ma K H4 b vc u _ _ _ := ⟨hM4.kin, hM4.kb, hM4.hb, hM4.hC, hM4.kc, hU, hsu⟩
        repeat (first
          | refine x_move rfl rfl rfl trivial ?_
          | refine x_assign rfl rfl rfl trivial ?_
          | refine x_add rfl rfl rfl (wrap_i64 (by omega) (by omega)) rfl trivial ?_
          | refine x_sub_ rfl rfl rfl (wrap_i64 (by omega) (by omega)) rfl trivial ?_
          | refine x_sub_ rfl rfl rfl (wrap_u32 (by omega) (by omega)) rfl trivial ?_
          | refine x_add rfl rfl rfl (wrap_u32 (by omega) (by omega)) rfl trivial ?_
          | refine x_peqn rfl rfl rfl rfl trivial ?_
          | refine x_pnen rfl rfl rfl rfl trivial ?_
          | refine x_mul rfl rfl rfl (wrap_i64 (by omega) (by omega)) rfl trivial ?_
          | refine x_ibin rfl rfl rfl rfl rfl trivial ?_
          | refine x_neg_ rfl rfl (wrap_i64 (by omega) (by omega)) rfl trivial ?_
          | refine x_len rfl rfl (by assumption) rfl trivial ?_
          | refine x_pick_t rfl rfl rfl rfl trivial ?_
          | refine x_pick_f rfl rfl rfl rfl trivial ?_
          | refine x_not rfl rfl rfl trivial ?_
          | refine x_beq rfl rfl rfl rfl trivial ?_
          | refine x_bne rfl rfl rfl rfl trivial ?_
          | refine x_extract rfl rfl rfl rfl trivial ?_
          | refine x_nilCheck rfl rfl rfl trivial ?_
          | refine x_fieldAddr rfl rfl rfl rfl trivial ?_
          | refine x_skip trivial rfl rfl rfl ?_
          | refine x_indexAddr1 rfl rfl rfl (by assumption) (by omega) (by omega) rfl trivial ?_
          | refine x_indexAddr rfl rfl rfl (by assumption) (by omega) (by omega) rfl trivial ?_
          | refine x_nil ?_
          | refine cw_seq ?_
          | refine nw_seq ?_
          | refine nw_block ?_
          | refine cw_block ?_
          | refine cw_skip ?_
          | refine cw_region ?_
          | refine cw_exit rfl ?_
          | refine cw_true rfl ?_
          | refine cw_false rfl ?_)
        refine x_store rfl rfl rfl (isSl_oneC hU.sl) hM4.hb (by simp) trivial ?_
        intro H5 hB5 hk5 hs5
        refine ⟨trivial, ?_⟩
        have hM5 := hM4'.own hB5 hk5
        have hb2 := hM.kin b (by rw [k1]; omega)
        have hBl5 : Blk H5 H2.size [c, .bool true] := hB4.keep hk5 (fun e => by omega)
        have hown5 : Own 1 H5 c ws.length (u64s ws) := hown4.keep hk5 (fun hc e => by have := hfc hc; omega)
        obtain ⟨K1, hK1, hKe, hKc⟩ := role_new (r := 10 + j) hM.kin hk2 hown hfc
        have hKK : ∀ x, K x ≠ 0 → K1 x = K x := fun x hx => hKe x (hKs x hx)
        have hM5 := hM5.role (K' := K1) (hK1.mono (by omega)) hKK
        have c51 : cel H5 b 1 = some vc := by rw [hM5.hb.cel]; rfl
        have sC := hM5.hC.sl
        rw [List.length_zipIdx] at sC
        have hlt := (List.getElem?_eq_some_iff.1 g2).1
        obtain ⟨r, hB, hr, hput⟩ := hM5.putC hlt
        have hr5 := Keep.refl Non H5
        repeat (first
          | refine x_move rfl rfl rfl trivial ?_
          | refine x_assign rfl rfl rfl trivial ?_
          | refine x_add rfl rfl rfl (wrap_i64 (by omega) (by omega)) rfl trivial ?_
          | refine x_sub_ rfl rfl rfl (wrap_i64 (by omega) (by omega)) rfl trivial ?_
          | refine x_sub_ rfl rfl rfl (wrap_u32 (by omega) (by omega)) rfl trivial ?_
          | refine x_add rfl rfl rfl (wrap_u32 (by omega) (by omega)) rfl trivial ?_
          | refine x_peqn rfl rfl rfl rfl trivial ?_
          | refine x_pnen rfl rfl rfl rfl trivial ?_
          | refine x_mul rfl rfl rfl (wrap_i64 (by omega) (by omega)) rfl trivial ?_
          | refine x_ibin rfl rfl rfl rfl rfl trivial ?_
          | refine x_neg_ rfl rfl (wrap_i64 (by omega) (by omega)) rfl trivial ?_
          | refine x_len rfl rfl (by assumption) rfl trivial ?_
          | refine x_pick_t rfl rfl rfl rfl trivial ?_
          | refine x_pick_f rfl rfl rfl rfl trivial ?_
          | refine x_not rfl rfl rfl trivial ?_
          | refine x_beq rfl rfl rfl rfl trivial ?_
          | refine x_bne rfl rfl rfl rfl trivial ?_
          | refine x_extract rfl rfl rfl rfl trivial ?_
          | refine x_nilCheck rfl rfl rfl trivial ?_
          | refine x_fieldAddr rfl rfl rfl rfl trivial ?_
          | refine x_skip trivial rfl rfl rfl ?_
          | refine x_indexAddr1 rfl rfl rfl (by assumption) (by omega) (by omega) rfl trivial ?_
          | refine x_indexAddr rfl rfl rfl (by assumption) (by omega) (by omega) rfl trivial ?_
          | refine x_nil ?_
          | refine cw_seq ?_
          | refine nw_seq ?_
          | refine nw_block ?_
          | refine cw_block ?_
          | refine cw_skip ?_
          | refine cw_region ?_
          | refine cw_exit rfl ?_
          | refine cw_true rfl ?_
          | refine cw_false rfl ?_)
        refine cw_held (fun _ => Keep Non H5) ⟨[8], [(3, 0), (6, 0)]⟩ (.op 0 (.op 1 (.op 2 (.op 3 (.op 4 (.op 5 (.op 6 (.op 7 (.op 8 (.nil)))))))))) panicOk_body mixed (by kernel_rfl) ?_
        repeat (first
          | refine x_move rfl rfl rfl (okq_reg rfl rfl) ?_
          | refine x_assign rfl rfl rfl (okq_reg rfl rfl) ?_
          | refine x_add rfl rfl rfl (wrap_i64 (by omega) (by omega)) rfl (okq_reg rfl rfl) ?_
          | refine x_sub_ rfl rfl rfl (wrap_i64 (by omega) (by omega)) rfl (okq_reg rfl rfl) ?_
          | refine x_sub_ rfl rfl rfl (wrap_u32 (by omega) (by omega)) rfl (okq_reg rfl rfl) ?_
          | refine x_mul rfl rfl rfl (wrap_i64 (by omega) (by omega)) rfl (okq_reg rfl rfl) ?_
          | refine x_ibin rfl rfl rfl rfl rfl (okq_reg rfl rfl) ?_
          | refine x_len rfl rfl (by assumption) rfl (okq_reg rfl rfl) ?_
          | refine x_pick_t rfl rfl rfl rfl (okq_reg rfl rfl) ?_
          | refine x_pick_f rfl rfl rfl rfl (okq_reg rfl rfl) ?_
          | refine x_not rfl rfl rfl (okq_reg rfl rfl) ?_
          | refine x_extract rfl rfl rfl rfl (okq_reg rfl rfl) ?_
          | refine x_nilCheck rfl rfl rfl (okq_reg rfl rfl) ?_
          | refine x_fieldAddr rfl rfl rfl rfl (okq_reg rfl rfl) ?_
          | refine x_skip (okq_reg rfl rfl) rfl rfl rfl ?_
          | refine x_indexAddr1 rfl rfl rfl (by assumption) (by omega) (by omega) rfl (okq_reg rfl rfl) ?_
          | refine x_indexAddr rfl rfl rfl (by assumption) (by omega) (by omega) rfl (okq_reg rfl rfl) ?_
          | refine x_nil ?_
          | refine cw_seq ?_
          | refine nw_seq ?_
          | refine nw_block ?_
          | refine cw_block ?_
          | refine cw_skip ?_
          | refine cw_region ?_
          | refine cw_exit rfl ?_
          | refine cw_true rfl ?_
          | refine cw_false rfl ?_)
        refine x_load rfl rfl (hpmk rfl (fun _ hk => hk.cel c51 (fun h => h))) rfl (okq_load rfl rfl (by assumption)) ?_
        repeat (first
          | refine x_move rfl rfl rfl (okq_reg rfl rfl) ?_
          | refine x_assign rfl rfl rfl (okq_reg rfl rfl) ?_
          | refine x_add rfl rfl rfl (wrap_i64 (by omega) (by omega)) rfl (okq_reg rfl rfl) ?_
          | refine x_sub_ rfl rfl rfl (wrap_i64 (by omega) (by omega)) rfl (okq_reg rfl rfl) ?_
          | refine x_sub_ rfl rfl rfl (wrap_u32 (by omega) (by omega)) rfl (okq_reg rfl rfl) ?_
          | refine x_mul rfl rfl rfl (wrap_i64 (by omega) (by omega)) rfl (okq_reg rfl rfl) ?_
          | refine x_ibin rfl rfl rfl rfl rfl (okq_reg rfl rfl) ?_
          | refine x_len rfl rfl (by assumption) rfl (okq_reg rfl rfl) ?_
          | refine x_pick_t rfl rfl rfl rfl (okq_reg rfl rfl) ?_
          | refine x_pick_f rfl rfl rfl rfl (okq_reg rfl rfl) ?_
          | refine x_not rfl rfl rfl (okq_reg rfl rfl) ?_
          | refine x_extract rfl rfl rfl rfl (okq_reg rfl rfl) ?_
          | refine x_nilCheck rfl rfl rfl (okq_reg rfl rfl) ?_
          | refine x_fieldAddr rfl rfl rfl rfl (okq_reg rfl rfl) ?_
          | refine x_skip (okq_reg rfl rfl) rfl rfl rfl ?_
          | refine x_indexAddr1 rfl rfl rfl (by assumption) (by omega) (by omega) rfl (okq_reg rfl rfl) ?_
          | refine x_indexAddr rfl rfl rfl (by assumption) (by omega) (by omega) rfl (okq_reg rfl rfl) ?_
          | refine x_nil ?_
          | refine cw_seq ?_
          | refine nw_seq ?_
          | refine nw_block ?_
          | refine cw_block ?_
          | refine cw_skip ?_
          | refine cw_region ?_
          | refine cw_exit rfl ?_
          | refine cw_true rfl ?_
          | refine cw_false rfl ?_)
        refine x_loads rfl rfl rfl (hpmk rfl (fun _ hk => (hBl5.cels 0 2 (by simp)).keep hk (fun _ h => h))) rfl (okq_load rfl rfl (by assumption)) ?_
        repeat (first
          | refine x_move rfl rfl rfl (okq_reg rfl rfl) ?_
          | refine x_assign rfl rfl rfl (okq_reg rfl rfl) ?_
          | refine x_add rfl rfl rfl (wrap_i64 (by omega) (by omega)) rfl (okq_reg rfl rfl) ?_
          | refine x_sub_ rfl rfl rfl (wrap_i64 (by omega) (by omega)) rfl (okq_reg rfl rfl) ?_
          | refine x_sub_ rfl rfl rfl (wrap_u32 (by omega) (by omega)) rfl (okq_reg rfl rfl) ?_
          | refine x_mul rfl rfl rfl (wrap_i64 (by omega) (by omega)) rfl (okq_reg rfl rfl) ?_
          | refine x_ibin rfl rfl rfl rfl rfl (okq_reg rfl rfl) ?_
          | refine x_len rfl rfl (by assumption) rfl (okq_reg rfl rfl) ?_
          | refine x_pick_t rfl rfl rfl rfl (okq_reg rfl rfl) ?_
          | refine x_pick_f rfl rfl rfl rfl (okq_reg rfl rfl) ?_
          | refine x_not rfl rfl rfl (okq_reg rfl rfl) ?_
          | refine x_extract rfl rfl rfl rfl (okq_reg rfl rfl) ?_
          | refine x_nilCheck rfl rfl rfl (okq_reg rfl rfl) ?_
          | refine x_fieldAddr rfl rfl rfl rfl (okq_reg rfl rfl) ?_
          | refine x_skip (okq_reg rfl rfl) rfl rfl rfl ?_
          | refine x_indexAddr1 rfl rfl rfl (by assumption) (by omega) (by omega) rfl (okq_reg rfl rfl) ?_
          | refine x_indexAddr rfl rfl rfl (by assumption) (by omega) (by omega) rfl (okq_reg rfl rfl) ?_
          | refine x_nil ?_
          | refine cw_seq ?_
          | refine nw_seq ?_
          | refine nw_block ?_
          | refine cw_block ?_
          | refine cw_skip ?_
          | refine cw_region ?_
          | refine cw_exit rfl ?_
          | refine cw_true rfl ?_
          | refine cw_false rfl ?_)
        rw [ej]
        repeat (first
          | refine x_move rfl rfl rfl (okq_reg rfl rfl) ?_
          | refine x_assign rfl rfl rfl (okq_reg rfl rfl) ?_
          | refine x_add rfl rfl rfl (wrap_i64 (by omega) (by omega)) rfl (okq_reg rfl rfl) ?_
          | refine x_sub_ rfl rfl rfl (wrap_i64 (by omega) (by omega)) rfl (okq_reg rfl rfl) ?_
          | refine x_sub_ rfl rfl rfl (wrap_u32 (by omega) (by omega)) rfl (okq_reg rfl rfl) ?_
          | refine x_mul rfl rfl rfl (wrap_i64 (by omega) (by omega)) rfl (okq_reg rfl rfl) ?_
          | refine x_ibin rfl rfl rfl rfl rfl (okq_reg rfl rfl) ?_
          | refine x_len rfl rfl (by assumption) rfl (okq_reg rfl rfl) ?_
          | refine x_pick_t rfl rfl rfl rfl (okq_reg rfl rfl) ?_
          | refine x_pick_f rfl rfl rfl rfl (okq_reg rfl rfl) ?_
          | refine x_not rfl rfl rfl (okq_reg rfl rfl) ?_
          | refine x_extract rfl rfl rfl rfl (okq_reg rfl rfl) ?_
          | refine x_nilCheck rfl rfl rfl (okq_reg rfl rfl) ?_
          | refine x_fieldAddr rfl rfl rfl rfl (okq_reg rfl rfl) ?_
          | refine x_skip (okq_reg rfl rfl) rfl rfl rfl ?_
          | refine x_indexAddr1 rfl rfl rfl (by assumption) (by omega) (by omega) rfl (okq_reg rfl rfl) ?_
          | refine x_indexAddr rfl rfl rfl (by assumption) (by omega) (by omega) rfl (okq_reg rfl rfl) ?_
          | refine x_nil ?_
          | refine cw_seq ?_
          | refine nw_seq ?_
          | refine nw_block ?_
          | refine cw_block ?_
          | refine cw_skip ?_
          | refine cw_region ?_
          | refine cw_exit rfl ?_
          | refine cw_true rfl ?_
          | refine cw_false rfl ?_)
        refine x_stores (cs := [c, .bool true]) rfl rfl rfl rfl (oc_cons hcO (oc_cons rfl oc_nil)) hB hr ⟨rfl, rfl⟩ ?_
        intro H6 hB6 hk6 hs6
        refine ⟨okm_free (fun c => by cases c <;> kernel_rfl), ?_⟩
        have hM6 := hput H6 c ws true ⟨rfl, hown5, hKc⟩ hB6 hk6
        have hpos : 0 < sc vc := by have := sC.cap.1; omega
        repeat (first
          | refine x_move rfl rfl rfl (okq_reg rfl rfl) ?_
          | refine x_assign rfl rfl rfl (okq_reg rfl rfl) ?_
          | refine x_add rfl rfl rfl (wrap_i64 (by omega) (by omega)) rfl (okq_reg rfl rfl) ?_
          | refine x_sub_ rfl rfl rfl (wrap_i64 (by omega) (by omega)) rfl (okq_reg rfl rfl) ?_
          | refine x_sub_ rfl rfl rfl (wrap_u32 (by omega) (by omega)) rfl (okq_reg rfl rfl) ?_
          | refine x_mul rfl rfl rfl (wrap_i64 (by omega) (by omega)) rfl (okq_reg rfl rfl) ?_
          | refine x_ibin rfl rfl rfl rfl rfl (okq_reg rfl rfl) ?_
          | refine x_len rfl rfl (by assumption) rfl (okq_reg rfl rfl) ?_
          | refine x_pick_t rfl rfl rfl rfl (okq_reg rfl rfl) ?_
          | refine x_pick_f rfl rfl rfl rfl (okq_reg rfl rfl) ?_
          | refine x_not rfl rfl rfl (okq_reg rfl rfl) ?_
          | refine x_extract rfl rfl rfl rfl (okq_reg rfl rfl) ?_
          | refine x_nilCheck rfl rfl rfl (okq_reg rfl rfl) ?_
          | refine x_fieldAddr rfl rfl rfl rfl (okq_reg rfl rfl) ?_
          | refine x_skip (okq_reg rfl rfl) rfl rfl rfl ?_
          | refine x_indexAddr1 rfl rfl rfl (by assumption) (by omega) (by omega) rfl (okq_reg rfl rfl) ?_
          | refine x_indexAddr rfl rfl rfl (by assumption) (by omega) (by omega) rfl (okq_reg rfl rfl) ?_
          | refine x_nil ?_
          | refine cw_seq ?_
          | refine nw_seq ?_
          | refine nw_block ?_
          | refine cw_block ?_
          | refine cw_skip ?_
          | refine cw_region ?_
          | refine cw_exit rfl ?_
          | refine cw_true rfl ?_
          | refine cw_false rfl ?_)
        repeat (first
          | refine x_move rfl rfl rfl trivial ?_
          | refine x_assign rfl rfl rfl trivial ?_
          | refine x_add rfl rfl rfl (wrap_i64 (by omega) (by omega)) rfl trivial ?_
          | refine x_sub_ rfl rfl rfl (wrap_i64 (by omega) (by omega)) rfl trivial ?_
          | refine x_sub_ rfl rfl rfl (wrap_u32 (by omega) (by omega)) rfl trivial ?_
          | refine x_add rfl rfl rfl (wrap_u32 (by omega) (by omega)) rfl trivial ?_
          | refine x_peqn rfl rfl rfl rfl trivial ?_
          | refine x_pnen rfl rfl rfl rfl trivial ?_
          | refine x_mul rfl rfl rfl (wrap_i64 (by omega) (by omega)) rfl trivial ?_
          | refine x_ibin rfl rfl rfl rfl rfl trivial ?_
          | refine x_neg_ rfl rfl (wrap_i64 (by omega) (by omega)) rfl trivial ?_
          | refine x_len rfl rfl (by assumption) rfl trivial ?_
          | refine x_pick_t rfl rfl rfl rfl trivial ?_
          | refine x_pick_f rfl rfl rfl rfl trivial ?_
          | refine x_not rfl rfl rfl trivial ?_
          | refine x_beq rfl rfl rfl rfl trivial ?_
          | refine x_bne rfl rfl rfl rfl trivial ?_
          | refine x_extract rfl rfl rfl rfl trivial ?_
          | refine x_nilCheck rfl rfl rfl trivial ?_
          | refine x_fieldAddr rfl rfl rfl rfl trivial ?_
          | refine x_skip trivial rfl rfl rfl ?_
          | refine x_indexAddr1 rfl rfl rfl (by assumption) (by omega) (by omega) rfl trivial ?_
          | refine x_indexAddr rfl rfl rfl (by assumption) (by omega) (by omega) rfl trivial ?_
          | refine x_nil ?_
          | refine cw_seq ?_
          | refine nw_seq ?_
          | refine nw_block ?_
          | refine cw_block ?_
          | refine cw_skip ?_
          | refine cw_region ?_
          | refine cw_exit rfl ?_
          | refine cw_true rfl ?_
          | refine cw_false rfl ?_)
        refine cw_ret2 rfl rfl rfl ⟨rfl, ((k04.mono fun _ _ h => h.elim).step hk5 fun x _ e => ?_).step hk6 fun x hx e => ?_, K1, ⟨hKe, by omega⟩, vc, u, hM6⟩
        · show K x ≠ 0
          rw [e, k1]
          omega
        · show K x ≠ 0
          rw [e, hM.kc hpos]
          omega
      | none =>
        have hb0 : a.back = [] := List.getLast?_eq_none_iff.1 hb
        have e : takeA a ws = (((a.cs.length + 1 : Nat) : Int), 0, ⟨a.most, a.cs ++ [(ws, true)], []⟩) := by
          unfold takeA
          rw [if_neg (by omega), if_neg hfull, hb]
        rw [e]
        refine cw_cond rfl (fun h => absurd h (by rw [hb0]; simp)) (fun _ => ?_)
        obtain ⟨K1, hK1, hKe, hKc⟩ := role_new (r := 10 + a.cs.length) hM.kin hk2 hown hfc
        have hKK : ∀ x, K x ≠ 0 → K1 x = K x := fun x hx => hKe x (hKs x hx)
        have hM4 := hM4.role (K' := K1) (hK1.mono (by omega)) hKK
        have c41 : cel H4 b 1 = some vc := by rw [hM4.hb.cel]; rfl
        have hr4 := Keep.refl (fun x => x = sb vc ∧ 0 < sc vc) H4
        have hnb : ¬ (b = sb vc ∧ 0 < sc vc) := fun e => by
          have h1 := hM4.kc e.2
          have h2 := hM4.kb
          rw [← e.1] at h1
          omega
        have hnl : ¬ (H2.size = sb vc ∧ 0 < sc vc) := fun e => by
          have := hKs (sb vc) (by rw [hM.kc e.2]; omega)
          omega
        repeat (first
          | refine x_move rfl rfl rfl trivial ?_
          | refine x_assign rfl rfl rfl trivial ?_
          | refine x_add rfl rfl rfl (wrap_i64 (by omega) (by omega)) rfl trivial ?_
          | refine x_sub_ rfl rfl rfl (wrap_i64 (by omega) (by omega)) rfl trivial ?_
          | refine x_sub_ rfl rfl rfl (wrap_u32 (by omega) (by omega)) rfl trivial ?_
          | refine x_add rfl rfl rfl (wrap_u32 (by omega) (by omega)) rfl trivial ?_
          | refine x_peqn rfl rfl rfl rfl trivial ?_
          | refine x_pnen rfl rfl rfl rfl trivial ?_
          | refine x_mul rfl rfl rfl (wrap_i64 (by omega) (by omega)) rfl trivial ?_
          | refine x_ibin rfl rfl rfl rfl rfl trivial ?_
          | refine x_neg_ rfl rfl (wrap_i64 (by omega) (by omega)) rfl trivial ?_
          | refine x_len rfl rfl (by assumption) rfl trivial ?_
          | refine x_pick_t rfl rfl rfl rfl trivial ?_
          | refine x_pick_f rfl rfl rfl rfl trivial ?_
          | refine x_not rfl rfl rfl trivial ?_
          | refine x_beq rfl rfl rfl rfl trivial ?_
          | refine x_bne rfl rfl rfl rfl trivial ?_
          | refine x_extract rfl rfl rfl rfl trivial ?_
          | refine x_nilCheck rfl rfl rfl trivial ?_
          | refine x_fieldAddr rfl rfl rfl rfl trivial ?_
          | refine x_skip trivial rfl rfl rfl ?_
          | refine x_indexAddr1 rfl rfl rfl (by assumption) (by omega) (by omega) rfl trivial ?_
          | refine x_indexAddr rfl rfl rfl (by assumption) (by omega) (by omega) rfl trivial ?_
          | refine x_nil ?_
          | refine cw_seq ?_
          | refine nw_seq ?_
          | refine nw_block ?_
          | refine cw_block ?_
          | refine cw_skip ?_
          | refine cw_region ?_
          | refine cw_exit rfl ?_
          | refine cw_true rfl ?_
          | refine cw_false rfl ?_)
        refine cw_held (fun _ => Keep (fun x => x = sb vc ∧ 0 < sc vc) H4) ⟨[6, 7, 10], [(4, 0), (5, 0)]⟩ (.op 0 (.op 1 (.op 2 (.op 3 (.op 4 (.op 5 (.op 6 (.op 7 (.op 8 (.op 9 (.op 10 (.nil)))))))))))) panicOk_body mixed (by kernel_rfl) ?_
        repeat (first
          | refine x_move rfl rfl rfl (okq_reg rfl rfl) ?_
          | refine x_assign rfl rfl rfl (okq_reg rfl rfl) ?_
          | refine x_add rfl rfl rfl (wrap_i64 (by omega) (by omega)) rfl (okq_reg rfl rfl) ?_
          | refine x_sub_ rfl rfl rfl (wrap_i64 (by omega) (by omega)) rfl (okq_reg rfl rfl) ?_
          | refine x_sub_ rfl rfl rfl (wrap_u32 (by omega) (by omega)) rfl (okq_reg rfl rfl) ?_
          | refine x_mul rfl rfl rfl (wrap_i64 (by omega) (by omega)) rfl (okq_reg rfl rfl) ?_
          | refine x_ibin rfl rfl rfl rfl rfl (okq_reg rfl rfl) ?_
          | refine x_len rfl rfl (by assumption) rfl (okq_reg rfl rfl) ?_
          | refine x_pick_t rfl rfl rfl rfl (okq_reg rfl rfl) ?_
          | refine x_pick_f rfl rfl rfl rfl (okq_reg rfl rfl) ?_
          | refine x_not rfl rfl rfl (okq_reg rfl rfl) ?_
          | refine x_extract rfl rfl rfl rfl (okq_reg rfl rfl) ?_
          | refine x_nilCheck rfl rfl rfl (okq_reg rfl rfl) ?_
          | refine x_fieldAddr rfl rfl rfl rfl (okq_reg rfl rfl) ?_
          | refine x_skip (okq_reg rfl rfl) rfl rfl rfl ?_
          | refine x_indexAddr1 rfl rfl rfl (by assumption) (by omega) (by omega) rfl (okq_reg rfl rfl) ?_
          | refine x_indexAddr rfl rfl rfl (by assumption) (by omega) (by omega) rfl (okq_reg rfl rfl) ?_
          | refine x_nil ?_
          | refine cw_seq ?_
          | refine nw_seq ?_
          | refine nw_block ?_
          | refine cw_block ?_
          | refine cw_skip ?_
          | refine cw_region ?_
          | refine cw_exit rfl ?_
          | refine cw_true rfl ?_
          | refine cw_false rfl ?_)
        refine x_load rfl rfl (hpmk rfl (fun _ hk => hk.cel c41 hnb)) rfl (okq_load rfl rfl (by assumption)) ?_
        repeat (first
          | refine x_move rfl rfl rfl (okq_reg rfl rfl) ?_
          | refine x_assign rfl rfl rfl (okq_reg rfl rfl) ?_
          | refine x_add rfl rfl rfl (wrap_i64 (by omega) (by omega)) rfl (okq_reg rfl rfl) ?_
          | refine x_sub_ rfl rfl rfl (wrap_i64 (by omega) (by omega)) rfl (okq_reg rfl rfl) ?_
          | refine x_sub_ rfl rfl rfl (wrap_u32 (by omega) (by omega)) rfl (okq_reg rfl rfl) ?_
          | refine x_mul rfl rfl rfl (wrap_i64 (by omega) (by omega)) rfl (okq_reg rfl rfl) ?_
          | refine x_ibin rfl rfl rfl rfl rfl (okq_reg rfl rfl) ?_
          | refine x_len rfl rfl (by assumption) rfl (okq_reg rfl rfl) ?_
          | refine x_pick_t rfl rfl rfl rfl (okq_reg rfl rfl) ?_
          | refine x_pick_f rfl rfl rfl rfl (okq_reg rfl rfl) ?_
          | refine x_not rfl rfl rfl (okq_reg rfl rfl) ?_
          | refine x_extract rfl rfl rfl rfl (okq_reg rfl rfl) ?_
          | refine x_nilCheck rfl rfl rfl (okq_reg rfl rfl) ?_
          | refine x_fieldAddr rfl rfl rfl rfl (okq_reg rfl rfl) ?_
          | refine x_skip (okq_reg rfl rfl) rfl rfl rfl ?_
          | refine x_indexAddr1 rfl rfl rfl (by assumption) (by omega) (by omega) rfl (okq_reg rfl rfl) ?_
          | refine x_indexAddr rfl rfl rfl (by assumption) (by omega) (by omega) rfl (okq_reg rfl rfl) ?_
          | refine x_nil ?_
          | refine cw_seq ?_
          | refine nw_seq ?_
          | refine nw_block ?_
          | refine cw_block ?_
          | refine cw_skip ?_
          | refine cw_region ?_
          | refine cw_exit rfl ?_
          | refine cw_true rfl ?_
          | refine cw_false rfl ?_)
        refine x_loads rfl rfl rfl (hpmk rfl (fun _ hk => (hB4.cels 0 2 (by simp)).keep hk (fun _ => hnl))) rfl (okq_load rfl rfl (by assumption)) ?_
        refine x_buildSliceS1 (c := [c, .bool true]) (by rfl) rfl rfl (by omega) (by rfl) rfl ⟨rfl, rfl⟩ ?_
        intro H5 hn5
        refine ⟨okm_keep hn5.keep (fun _ _ h => h.elim), ?_⟩
        have hM5 := hM4.keepN hn5.keep
        obtain ⟨q, hq1, hq2⟩ := hM5.hC.row
        refine x_append (v := vc) (by rfl) (by rfl) (by rfl) rfl rfl rfl hq2 (isSl_some (Nat.le_refl _) (by omega)) (m := 1) (cx := rws encC [(c, true)]) rfl (hn5.blk.cels 0 2 (by simp)) (rws_oneC (fun x hx => by simp at hx; subst hx; exact oc_cons hcO (oc_cons rfl oc_nil))) (by rw [List.length_zipIdx]; omega) rfl ⟨rfl, rfl⟩ ?_
        intro v6 H6 hap
        refine ⟨okm_keep hap.keep (fun x _ e => ⟨e.1, by omega⟩), ?_⟩
        obtain ⟨hM6, ar⟩ := hM5.appC hq1 ⟨rfl, hown4.keep hn5.keep (fun _ h => h), hKc⟩ hap
        repeat (first
          | refine x_move rfl rfl rfl (okq_reg rfl rfl) ?_
          | refine x_assign rfl rfl rfl (okq_reg rfl rfl) ?_
          | refine x_add rfl rfl rfl (wrap_i64 (by omega) (by omega)) rfl (okq_reg rfl rfl) ?_
          | refine x_sub_ rfl rfl rfl (wrap_i64 (by omega) (by omega)) rfl (okq_reg rfl rfl) ?_
          | refine x_sub_ rfl rfl rfl (wrap_u32 (by omega) (by omega)) rfl (okq_reg rfl rfl) ?_
          | refine x_mul rfl rfl rfl (wrap_i64 (by omega) (by omega)) rfl (okq_reg rfl rfl) ?_
          | refine x_ibin rfl rfl rfl rfl rfl (okq_reg rfl rfl) ?_
          | refine x_len rfl rfl (by assumption) rfl (okq_reg rfl rfl) ?_
          | refine x_pick_t rfl rfl rfl rfl (okq_reg rfl rfl) ?_
          | refine x_pick_f rfl rfl rfl rfl (okq_reg rfl rfl) ?_
          | refine x_not rfl rfl rfl (okq_reg rfl rfl) ?_
          | refine x_extract rfl rfl rfl rfl (okq_reg rfl rfl) ?_
          | refine x_nilCheck rfl rfl rfl (okq_reg rfl rfl) ?_
          | refine x_fieldAddr rfl rfl rfl rfl (okq_reg rfl rfl) ?_
          | refine x_skip (okq_reg rfl rfl) rfl rfl rfl ?_
          | refine x_indexAddr1 rfl rfl rfl (by assumption) (by omega) (by omega) rfl (okq_reg rfl rfl) ?_
          | refine x_indexAddr rfl rfl rfl (by assumption) (by omega) (by omega) rfl (okq_reg rfl rfl) ?_
          | refine x_nil ?_
          | refine cw_seq ?_
          | refine nw_seq ?_
          | refine nw_block ?_
          | refine cw_block ?_
          | refine cw_skip ?_
          | refine cw_region ?_
          | refine cw_exit rfl ?_
          | refine cw_true rfl ?_
          | refine cw_false rfl ?_)
        refine x_store rfl rfl rfl (isSl_oneC hM6.hC.sl) hM6.hb (by simp) ⟨rfl, rfl⟩ ?_
        intro H7 hB7 hk7 hs7
        refine ⟨okm_free (fun c => by cases c <;> kernel_rfl), ?_⟩
        have hM7 := hM6.own hB7 hk7
        have c71 : cel H7 b 1 = some v6 := by rw [hM7.hb.cel]; rfl
        have s7 := hM7.hC.sl
        rw [List.length_zipIdx, List.length_append] at s7
        simp only [List.length_cons, List.length_nil] at s7
        repeat (first
          | refine x_move rfl rfl rfl (okq_reg rfl rfl) ?_
          | refine x_assign rfl rfl rfl (okq_reg rfl rfl) ?_
          | refine x_add rfl rfl rfl (wrap_i64 (by omega) (by omega)) rfl (okq_reg rfl rfl) ?_
          | refine x_sub_ rfl rfl rfl (wrap_i64 (by omega) (by omega)) rfl (okq_reg rfl rfl) ?_
          | refine x_sub_ rfl rfl rfl (wrap_u32 (by omega) (by omega)) rfl (okq_reg rfl rfl) ?_
          | refine x_mul rfl rfl rfl (wrap_i64 (by omega) (by omega)) rfl (okq_reg rfl rfl) ?_
          | refine x_ibin rfl rfl rfl rfl rfl (okq_reg rfl rfl) ?_
          | refine x_len rfl rfl (by assumption) rfl (okq_reg rfl rfl) ?_
          | refine x_pick_t rfl rfl rfl rfl (okq_reg rfl rfl) ?_
          | refine x_pick_f rfl rfl rfl rfl (okq_reg rfl rfl) ?_
          | refine x_not rfl rfl rfl (okq_reg rfl rfl) ?_
          | refine x_extract rfl rfl rfl rfl (okq_reg rfl rfl) ?_
          | refine x_nilCheck rfl rfl rfl (okq_reg rfl rfl) ?_
          | refine x_fieldAddr rfl rfl rfl rfl (okq_reg rfl rfl) ?_
          | refine x_skip (okq_reg rfl rfl) rfl rfl rfl ?_
          | refine x_indexAddr1 rfl rfl rfl (by assumption) (by omega) (by omega) rfl (okq_reg rfl rfl) ?_
          | refine x_indexAddr rfl rfl rfl (by assumption) (by omega) (by omega) rfl (okq_reg rfl rfl) ?_
          | refine x_nil ?_
          | refine cw_seq ?_
          | refine nw_seq ?_
          | refine nw_block ?_
          | refine cw_block ?_
          | refine cw_skip ?_
          | refine cw_region ?_
          | refine cw_exit rfl ?_
          | refine cw_true rfl ?_
          | refine cw_false rfl ?_)
        repeat (first
          | refine x_move rfl rfl rfl trivial ?_
          | refine x_assign rfl rfl rfl trivial ?_
          | refine x_add rfl rfl rfl (wrap_i64 (by omega) (by omega)) rfl trivial ?_
          | refine x_sub_ rfl rfl rfl (wrap_i64 (by omega) (by omega)) rfl trivial ?_
          | refine x_sub_ rfl rfl rfl (wrap_u32 (by omega) (by omega)) rfl trivial ?_
          | refine x_add rfl rfl rfl (wrap_u32 (by omega) (by omega)) rfl trivial ?_
          | refine x_peqn rfl rfl rfl rfl trivial ?_
          | refine x_pnen rfl rfl rfl rfl trivial ?_
          | refine x_mul rfl rfl rfl (wrap_i64 (by omega) (by omega)) rfl trivial ?_
          | refine x_ibin rfl rfl rfl rfl rfl trivial ?_
          | refine x_neg_ rfl rfl (wrap_i64 (by omega) (by omega)) rfl trivial ?_
          | refine x_len rfl rfl (by assumption) rfl trivial ?_
          | refine x_pick_t rfl rfl rfl rfl trivial ?_
          | refine x_pick_f rfl rfl rfl rfl trivial ?_
          | refine x_not rfl rfl rfl trivial ?_
          | refine x_beq rfl rfl rfl rfl trivial ?_
          | refine x_bne rfl rfl rfl rfl trivial ?_
          | refine x_extract rfl rfl rfl rfl trivial ?_
          | refine x_nilCheck rfl rfl rfl trivial ?_
          | refine x_fieldAddr rfl rfl rfl rfl trivial ?_
          | refine x_skip trivial rfl rfl rfl ?_
          | refine x_indexAddr1 rfl rfl rfl (by assumption) (by omega) (by omega) rfl trivial ?_
          | refine x_indexAddr rfl rfl rfl (by assumption) (by omega) (by omega) rfl trivial ?_
          | refine x_nil ?_
          | refine cw_seq ?_
          | refine nw_seq ?_
          | refine nw_block ?_
          | refine cw_block ?_
          | refine cw_skip ?_
          | refine cw_region ?_
          | refine cw_exit rfl ?_
          | refine cw_true rfl ?_
          | refine cw_false rfl ?_)
        refine x_load rfl rfl (hpmt (c71)) rfl trivial ?_
        repeat (first
          | refine x_move rfl rfl rfl trivial ?_
          | refine x_assign rfl rfl rfl trivial ?_
          | refine x_add rfl rfl rfl (wrap_i64 (by omega) (by omega)) rfl trivial ?_
          | refine x_sub_ rfl rfl rfl (wrap_i64 (by omega) (by omega)) rfl trivial ?_
          | refine x_sub_ rfl rfl rfl (wrap_u32 (by omega) (by omega)) rfl trivial ?_
          | refine x_add rfl rfl rfl (wrap_u32 (by omega) (by omega)) rfl trivial ?_
          | refine x_peqn rfl rfl rfl rfl trivial ?_
          | refine x_pnen rfl rfl rfl rfl trivial ?_
          | refine x_mul rfl rfl rfl (wrap_i64 (by omega) (by omega)) rfl trivial ?_
          | refine x_ibin rfl rfl rfl rfl rfl trivial ?_
          | refine x_neg_ rfl rfl (wrap_i64 (by omega) (by omega)) rfl trivial ?_
          | refine x_len rfl rfl (by assumption) rfl trivial ?_
          | refine x_pick_t rfl rfl rfl rfl trivial ?_
          | refine x_pick_f rfl rfl rfl rfl trivial ?_
          | refine x_not rfl rfl rfl trivial ?_
          | refine x_beq rfl rfl rfl rfl trivial ?_
          | refine x_bne rfl rfl rfl rfl trivial ?_
          | refine x_extract rfl rfl rfl rfl trivial ?_
          | refine x_nilCheck rfl rfl rfl trivial ?_
          | refine x_fieldAddr rfl rfl rfl rfl trivial ?_
          | refine x_skip trivial rfl rfl rfl ?_
          | refine x_indexAddr1 rfl rfl rfl (by assumption) (by omega) (by omega) rfl trivial ?_
          | refine x_indexAddr rfl rfl rfl (by assumption) (by omega) (by omega) rfl trivial ?_
          | refine x_nil ?_
          | refine cw_seq ?_
          | refine nw_seq ?_
          | refine nw_block ?_
          | refine cw_block ?_
          | refine cw_skip ?_
          | refine cw_region ?_
          | refine cw_exit rfl ?_
          | refine cw_true rfl ?_
          | refine cw_false rfl ?_)
        refine x_conv_int rfl rfl rfl trivial ?_
        rw [wrap_u32 (by omega) (by omega)]
        repeat (first
          | refine x_move rfl rfl rfl trivial ?_
          | refine x_assign rfl rfl rfl trivial ?_
          | refine x_add rfl rfl rfl (wrap_i64 (by omega) (by omega)) rfl trivial ?_
          | refine x_sub_ rfl rfl rfl (wrap_i64 (by omega) (by omega)) rfl trivial ?_
          | refine x_sub_ rfl rfl rfl (wrap_u32 (by omega) (by omega)) rfl trivial ?_
          | refine x_add rfl rfl rfl (wrap_u32 (by omega) (by omega)) rfl trivial ?_
          | refine x_peqn rfl rfl rfl rfl trivial ?_
          | refine x_pnen rfl rfl rfl rfl trivial ?_
          | refine x_mul rfl rfl rfl (wrap_i64 (by omega) (by omega)) rfl trivial ?_
          | refine x_ibin rfl rfl rfl rfl rfl trivial ?_
          | refine x_neg_ rfl rfl (wrap_i64 (by omega) (by omega)) rfl trivial ?_
          | refine x_len rfl rfl (by assumption) rfl trivial ?_
          | refine x_pick_t rfl rfl rfl rfl trivial ?_
          | refine x_pick_f rfl rfl rfl rfl trivial ?_
          | refine x_not rfl rfl rfl trivial ?_
          | refine x_beq rfl rfl rfl rfl trivial ?_
          | refine x_bne rfl rfl rfl rfl trivial ?_
          | refine x_extract rfl rfl rfl rfl trivial ?_
          | refine x_nilCheck rfl rfl rfl trivial ?_
          | refine x_fieldAddr rfl rfl rfl rfl trivial ?_
          | refine x_skip trivial rfl rfl rfl ?_
          | refine x_indexAddr1 rfl rfl rfl (by assumption) (by omega) (by omega) rfl trivial ?_
          | refine x_indexAddr rfl rfl rfl (by assumption) (by omega) (by omega) rfl trivial ?_
          | refine x_nil ?_
          | refine cw_seq ?_
          | refine nw_seq ?_
          | refine nw_block ?_
          | refine cw_block ?_
          | refine cw_skip ?_
          | refine cw_region ?_
          | refine cw_exit rfl ?_
          | refine cw_true rfl ?_
          | refine cw_false rfl ?_)
        have s45 := hn5.keep.size
        have s56 := ar.keep.size
        rw [hb0] at hM7
        refine cw_ret2 rfl rfl rfl ⟨rfl, (((k04.mono fun _ _ h => h.elim).step hn5.keep fun _ _ h => h.elim).step ar.keep fun x hx e => ?_).step hk7 fun x _ e => ?_, _, ⟨fun x hx => ?_, by omega⟩, v6, vb, hM7⟩
        · show K x ≠ 0
          rw [e.1, hM.kc e.2]
          omega
        · show K x ≠ 0
          rw [e, k1]
          omega
        · rw [ar.old x (by omega)]
          exact hKe x hx

theorem arena_Handles {K : Role} {b : Nat} {a : Ar} {H : Heap} (hS : Sa K H b a) (hl : a.cs.length ≤ 1000000) :
    Ret Try.prog 18 [ptr b 0] H (fun v H' => Keep Non H H' ∧ Rw encU 1 Eq H' v (handlesA a) ∧ Fresh H v) := by
  obtain ⟨vc, vb, hM⟩ := hS
  have sC := hM.hC.sl
  rw [List.length_zipIdx] at sC
  have cC := sC.cap
  have c1 : cel H b 1 = some vc := by rw [hM.hb.cel]; rfl
  refine ret_of Try.func18 rfl rfl rfl rfl ?_
  intro w0
  repeat (first
    | refine x_move rfl rfl rfl trivial ?_
    | refine x_assign rfl rfl rfl trivial ?_
    | refine x_add rfl rfl rfl (wrap_i64 (by omega) (by omega)) rfl trivial ?_
    | refine x_sub_ rfl rfl rfl (wrap_i64 (by omega) (by omega)) rfl trivial ?_
    | refine x_sub_ rfl rfl rfl (wrap_u32 (by omega) (by omega)) rfl trivial ?_
    | refine x_add rfl rfl rfl (wrap_u32 (by omega) (by omega)) rfl trivial ?_
    | refine x_peqn rfl rfl rfl rfl trivial ?_
    | refine x_pnen rfl rfl rfl rfl trivial ?_
    | refine x_mul rfl rfl rfl (wrap_i64 (by omega) (by omega)) rfl trivial ?_
    | refine x_ibin rfl rfl rfl rfl rfl trivial ?_
    | refine x_neg_ rfl rfl (wrap_i64 (by omega) (by omega)) rfl trivial ?_
    | refine x_len rfl rfl (by assumption) rfl trivial ?_
    | refine x_pick_t rfl rfl rfl rfl trivial ?_
    | refine x_pick_f rfl rfl rfl rfl trivial ?_
    | refine x_not rfl rfl rfl trivial ?_
    | refine x_beq rfl rfl rfl rfl trivial ?_
    | refine x_bne rfl rfl rfl rfl trivial ?_
    | refine x_extract rfl rfl rfl rfl trivial ?_
    | refine x_nilCheck rfl rfl rfl trivial ?_
    | refine x_fieldAddr rfl rfl rfl rfl trivial ?_
    | refine x_skip trivial rfl rfl rfl ?_
    | refine x_indexAddr1 rfl rfl rfl (by assumption) (by omega) (by omega) rfl trivial ?_
    | refine x_indexAddr rfl rfl rfl (by assumption) (by omega) (by omega) rfl trivial ?_
    | refine x_nil ?_
    | refine cw_seq ?_
    | refine nw_seq ?_
    | refine nw_block ?_
    | refine cw_block ?_
    | refine cw_skip ?_
    | refine cw_region ?_
    | refine cw_exit rfl ?_
    | refine cw_true rfl ?_
    | refine cw_false rfl ?_)
  refine x_load rfl rfl (hpmt (c1)) rfl trivial ?_
  repeat (first
    | refine x_move rfl rfl rfl trivial ?_
    | refine x_assign rfl rfl rfl trivial ?_
    | refine x_add rfl rfl rfl (wrap_i64 (by omega) (by omega)) rfl trivial ?_
    | refine x_sub_ rfl rfl rfl (wrap_i64 (by omega) (by omega)) rfl trivial ?_
    | refine x_sub_ rfl rfl rfl (wrap_u32 (by omega) (by omega)) rfl trivial ?_
    | refine x_add rfl rfl rfl (wrap_u32 (by omega) (by omega)) rfl trivial ?_
    | refine x_peqn rfl rfl rfl rfl trivial ?_
    | refine x_pnen rfl rfl rfl rfl trivial ?_
    | refine x_mul rfl rfl rfl (wrap_i64 (by omega) (by omega)) rfl trivial ?_
    | refine x_ibin rfl rfl rfl rfl rfl trivial ?_
    | refine x_neg_ rfl rfl (wrap_i64 (by omega) (by omega)) rfl trivial ?_
    | refine x_len rfl rfl (by assumption) rfl trivial ?_
    | refine x_pick_t rfl rfl rfl rfl trivial ?_
    | refine x_pick_f rfl rfl rfl rfl trivial ?_
    | refine x_not rfl rfl rfl trivial ?_
    | refine x_beq rfl rfl rfl rfl trivial ?_
    | refine x_bne rfl rfl rfl rfl trivial ?_
    | refine x_extract rfl rfl rfl rfl trivial ?_
    | refine x_nilCheck rfl rfl rfl trivial ?_
    | refine x_fieldAddr rfl rfl rfl rfl trivial ?_
    | refine x_skip trivial rfl rfl rfl ?_
    | refine x_indexAddr1 rfl rfl rfl (by assumption) (by omega) (by omega) rfl trivial ?_
    | refine x_indexAddr rfl rfl rfl (by assumption) (by omega) (by omega) rfl trivial ?_
    | refine x_nil ?_
    | refine cw_seq ?_
    | refine nw_seq ?_
    | refine nw_block ?_
    | refine cw_block ?_
    | refine cw_skip ?_
    | refine cw_region ?_
    | refine cw_exit rfl ?_
    | refine cw_true rfl ?_
    | refine cw_false rfl ?_)
  refine cw_loop (fun s : Nat × Value => [(3, s.2), (11, vc), (12, .int .i64 a.cs.length), (13, .int .i64 s.1)])
    (fun s H' => s.1 ≤ a.cs.length ∧ Keep Non H H' ∧ Rw encU 1 Eq H' s.2 (hdl (a.cs.take s.1) 1) ∧ Fresh H s.2) (fun s => a.cs.length - s.1) (0, _) (by repeat (first | exact True.intro | refine ⟨rfl, ?_⟩)) ⟨Nat.zero_le _, Keep.refl _ _, Rw.nil _ _ _ _, Fresh.nil _⟩ ?_
  rintro ⟨i, v⟩ H1 ⟨hi, hk1, hV, hf⟩
  simp only at hi hV hf
  dsimp only
  repeat (first
    | refine x_move rfl rfl rfl trivial ?_
    | refine x_assign rfl rfl rfl trivial ?_
    | refine x_add rfl rfl rfl (wrap_i64 (by omega) (by omega)) rfl trivial ?_
    | refine x_sub_ rfl rfl rfl (wrap_i64 (by omega) (by omega)) rfl trivial ?_
    | refine x_sub_ rfl rfl rfl (wrap_u32 (by omega) (by omega)) rfl trivial ?_
    | refine x_add rfl rfl rfl (wrap_u32 (by omega) (by omega)) rfl trivial ?_
    | refine x_peqn rfl rfl rfl rfl trivial ?_
    | refine x_pnen rfl rfl rfl rfl trivial ?_
    | refine x_mul rfl rfl rfl (wrap_i64 (by omega) (by omega)) rfl trivial ?_
    | refine x_ibin rfl rfl rfl rfl rfl trivial ?_
    | refine x_neg_ rfl rfl (wrap_i64 (by omega) (by omega)) rfl trivial ?_
    | refine x_len rfl rfl (by assumption) rfl trivial ?_
    | refine x_pick_t rfl rfl rfl rfl trivial ?_
    | refine x_pick_f rfl rfl rfl rfl trivial ?_
    | refine x_not rfl rfl rfl trivial ?_
    | refine x_beq rfl rfl rfl rfl trivial ?_
    | refine x_bne rfl rfl rfl rfl trivial ?_
    | refine x_extract rfl rfl rfl rfl trivial ?_
    | refine x_nilCheck rfl rfl rfl trivial ?_
    | refine x_fieldAddr rfl rfl rfl rfl trivial ?_
    | refine x_skip trivial rfl rfl rfl ?_
    | refine x_indexAddr1 rfl rfl rfl (by assumption) (by omega) (by omega) rfl trivial ?_
    | refine x_indexAddr rfl rfl rfl (by assumption) (by omega) (by omega) rfl trivial ?_
    | refine x_nil ?_
    | refine cw_seq ?_
    | refine nw_seq ?_
    | refine nw_block ?_
    | refine cw_block ?_
    | refine cw_skip ?_
    | refine cw_region ?_
    | refine cw_exit rfl ?_
    | refine cw_true rfl ?_
    | refine cw_false rfl ?_)
  refine cw_cond rfl (fun hlt => ?_) (fun hlt => ?_) <;> (try simp at hlt)
  · obtain ⟨y, hy⟩ : ∃ y, a.cs[i]? = some y := ⟨_, List.getElem?_eq_getElem hlt⟩
    obtain ⟨w, ho, _, hc0, hc1⟩ := (hM.keepN hk1).at_ hy
    have hcs : Cels H1 (sb vc) (so vc + i * 2) [w, .bool y.2] := by
      intro j hj
      have : j = 0 ∨ j = 1 := by simp at hj; omega
      rcases this with rfl | rfl
      · exact hc0
      · exact hc1
    repeat (first
      | refine x_move rfl rfl rfl trivial ?_
      | refine x_assign rfl rfl rfl trivial ?_
      | refine x_add rfl rfl rfl (wrap_i64 (by omega) (by omega)) rfl trivial ?_
      | refine x_sub_ rfl rfl rfl (wrap_i64 (by omega) (by omega)) rfl trivial ?_
      | refine x_sub_ rfl rfl rfl (wrap_u32 (by omega) (by omega)) rfl trivial ?_
      | refine x_add rfl rfl rfl (wrap_u32 (by omega) (by omega)) rfl trivial ?_
      | refine x_peqn rfl rfl rfl rfl trivial ?_
      | refine x_pnen rfl rfl rfl rfl trivial ?_
      | refine x_mul rfl rfl rfl (wrap_i64 (by omega) (by omega)) rfl trivial ?_
      | refine x_ibin rfl rfl rfl rfl rfl trivial ?_
      | refine x_neg_ rfl rfl (wrap_i64 (by omega) (by omega)) rfl trivial ?_
      | refine x_len rfl rfl (by assumption) rfl trivial ?_
      | refine x_pick_t rfl rfl rfl rfl trivial ?_
      | refine x_pick_f rfl rfl rfl rfl trivial ?_
      | refine x_not rfl rfl rfl trivial ?_
      | refine x_beq rfl rfl rfl rfl trivial ?_
      | refine x_bne rfl rfl rfl rfl trivial ?_
      | refine x_extract rfl rfl rfl rfl trivial ?_
      | refine x_nilCheck rfl rfl rfl trivial ?_
      | refine x_fieldAddr rfl rfl rfl rfl trivial ?_
      | refine x_skip trivial rfl rfl rfl ?_
      | refine x_indexAddr1 rfl rfl rfl (by assumption) (by omega) (by omega) rfl trivial ?_
      | refine x_indexAddr rfl rfl rfl (by assumption) (by omega) (by omega) rfl trivial ?_
      | refine x_nil ?_
      | refine cw_seq ?_
      | refine nw_seq ?_
      | refine nw_block ?_
      | refine cw_block ?_
      | refine cw_skip ?_
      | refine cw_region ?_
      | refine cw_exit rfl ?_
      | refine cw_true rfl ?_
      | refine cw_false rfl ?_)
    refine x_loads rfl rfl rfl (hpmt hcs) rfl trivial ?_
    refine x_alloc rfl rfl trivial ?_
    intro H2 hn2
    refine ⟨trivial, ?_⟩
    repeat (first
      | refine x_move rfl rfl rfl trivial ?_
      | refine x_assign rfl rfl rfl trivial ?_
      | refine x_add rfl rfl rfl (wrap_i64 (by omega) (by omega)) rfl trivial ?_
      | refine x_sub_ rfl rfl rfl (wrap_i64 (by omega) (by omega)) rfl trivial ?_
      | refine x_sub_ rfl rfl rfl (wrap_u32 (by omega) (by omega)) rfl trivial ?_
      | refine x_add rfl rfl rfl (wrap_u32 (by omega) (by omega)) rfl trivial ?_
      | refine x_peqn rfl rfl rfl rfl trivial ?_
      | refine x_pnen rfl rfl rfl rfl trivial ?_
      | refine x_mul rfl rfl rfl (wrap_i64 (by omega) (by omega)) rfl trivial ?_
      | refine x_ibin rfl rfl rfl rfl rfl trivial ?_
      | refine x_neg_ rfl rfl (wrap_i64 (by omega) (by omega)) rfl trivial ?_
      | refine x_len rfl rfl (by assumption) rfl trivial ?_
      | refine x_pick_t rfl rfl rfl rfl trivial ?_
      | refine x_pick_f rfl rfl rfl rfl trivial ?_
      | refine x_not rfl rfl rfl trivial ?_
      | refine x_beq rfl rfl rfl rfl trivial ?_
      | refine x_bne rfl rfl rfl rfl trivial ?_
      | refine x_extract rfl rfl rfl rfl trivial ?_
      | refine x_nilCheck rfl rfl rfl trivial ?_
      | refine x_fieldAddr rfl rfl rfl rfl trivial ?_
      | refine x_skip trivial rfl rfl rfl ?_
      | refine x_indexAddr1 rfl rfl rfl (by assumption) (by omega) (by omega) rfl trivial ?_
      | refine x_indexAddr rfl rfl rfl (by assumption) (by omega) (by omega) rfl trivial ?_
      | refine x_nil ?_
      | refine cw_seq ?_
      | refine nw_seq ?_
      | refine nw_block ?_
      | refine cw_block ?_
      | refine cw_skip ?_
      | refine cw_region ?_
      | refine cw_exit rfl ?_
      | refine cw_true rfl ?_
      | refine cw_false rfl ?_)
    refine x_stores rfl rfl rfl rfl (oc_cons (isSl_oneC ho.sl) (oc_cons rfl oc_nil)) hn2.blk (by simp) trivial ?_
    intro H3 hB3 hk3 hs3
    refine ⟨trivial, ?_⟩
    have hB3 : Blk H3 H1.size [w, .bool y.2] := hB3
    have k13 : Keep Non H1 H3 := keep_at hn2.keep hk3 (Nat.le_refl _)
    have hV3 := hV.keepN k13
    have cB : cel H3 H1.size 1 = some (.bool y.2) := by rw [hB3.cel]; rfl
    have k03 := hk1.non_trans k13
    have hlen : (hdl (a.cs.take i) 1).length ≤ 1000000 := by
      rw [hdl_length]
      have := takenA_le (a.cs.take i)
      rw [List.length_take] at this
      omega
    have htk := hdl_take hy
    repeat (first
      | refine x_move rfl rfl rfl trivial ?_
      | refine x_assign rfl rfl rfl trivial ?_
      | refine x_add rfl rfl rfl (wrap_i64 (by omega) (by omega)) rfl trivial ?_
      | refine x_sub_ rfl rfl rfl (wrap_i64 (by omega) (by omega)) rfl trivial ?_
      | refine x_sub_ rfl rfl rfl (wrap_u32 (by omega) (by omega)) rfl trivial ?_
      | refine x_add rfl rfl rfl (wrap_u32 (by omega) (by omega)) rfl trivial ?_
      | refine x_peqn rfl rfl rfl rfl trivial ?_
      | refine x_pnen rfl rfl rfl rfl trivial ?_
      | refine x_mul rfl rfl rfl (wrap_i64 (by omega) (by omega)) rfl trivial ?_
      | refine x_ibin rfl rfl rfl rfl rfl trivial ?_
      | refine x_neg_ rfl rfl (wrap_i64 (by omega) (by omega)) rfl trivial ?_
      | refine x_len rfl rfl (by assumption) rfl trivial ?_
      | refine x_pick_t rfl rfl rfl rfl trivial ?_
      | refine x_pick_f rfl rfl rfl rfl trivial ?_
      | refine x_not rfl rfl rfl trivial ?_
      | refine x_beq rfl rfl rfl rfl trivial ?_
      | refine x_bne rfl rfl rfl rfl trivial ?_
      | refine x_extract rfl rfl rfl rfl trivial ?_
      | refine x_nilCheck rfl rfl rfl trivial ?_
      | refine x_fieldAddr rfl rfl rfl rfl trivial ?_
      | refine x_skip trivial rfl rfl rfl ?_
      | refine x_indexAddr1 rfl rfl rfl (by assumption) (by omega) (by omega) rfl trivial ?_
      | refine x_indexAddr rfl rfl rfl (by assumption) (by omega) (by omega) rfl trivial ?_
      | refine x_nil ?_
      | refine cw_seq ?_
      | refine nw_seq ?_
      | refine nw_block ?_
      | refine cw_block ?_
      | refine cw_skip ?_
      | refine cw_region ?_
      | refine cw_exit rfl ?_
      | refine cw_true rfl ?_
      | refine cw_false rfl ?_)
    refine x_load rfl rfl (hpmt (cB)) rfl trivial ?_
    repeat (first
      | refine x_move rfl rfl rfl trivial ?_
      | refine x_assign rfl rfl rfl trivial ?_
      | refine x_add rfl rfl rfl (wrap_i64 (by omega) (by omega)) rfl trivial ?_
      | refine x_sub_ rfl rfl rfl (wrap_i64 (by omega) (by omega)) rfl trivial ?_
      | refine x_sub_ rfl rfl rfl (wrap_u32 (by omega) (by omega)) rfl trivial ?_
      | refine x_add rfl rfl rfl (wrap_u32 (by omega) (by omega)) rfl trivial ?_
      | refine x_peqn rfl rfl rfl rfl trivial ?_
      | refine x_pnen rfl rfl rfl rfl trivial ?_
      | refine x_mul rfl rfl rfl (wrap_i64 (by omega) (by omega)) rfl trivial ?_
      | refine x_ibin rfl rfl rfl rfl rfl trivial ?_
      | refine x_neg_ rfl rfl (wrap_i64 (by omega) (by omega)) rfl trivial ?_
      | refine x_len rfl rfl (by assumption) rfl trivial ?_
      | refine x_pick_t rfl rfl rfl rfl trivial ?_
      | refine x_pick_f rfl rfl rfl rfl trivial ?_
      | refine x_not rfl rfl rfl trivial ?_
      | refine x_beq rfl rfl rfl rfl trivial ?_
      | refine x_bne rfl rfl rfl rfl trivial ?_
      | refine x_extract rfl rfl rfl rfl trivial ?_
      | refine x_nilCheck rfl rfl rfl trivial ?_
      | refine x_fieldAddr rfl rfl rfl rfl trivial ?_
      | refine x_skip trivial rfl rfl rfl ?_
      | refine x_indexAddr1 rfl rfl rfl (by assumption) (by omega) (by omega) rfl trivial ?_
      | refine x_indexAddr rfl rfl rfl (by assumption) (by omega) (by omega) rfl trivial ?_
      | refine x_nil ?_
      | refine cw_seq ?_
      | refine nw_seq ?_
      | refine nw_block ?_
      | refine cw_block ?_
      | refine cw_skip ?_
      | refine cw_region ?_
      | refine cw_exit rfl ?_
      | refine cw_true rfl ?_
      | refine cw_false rfl ?_)
    refine cw_cond rfl (fun hk => ?_) (fun hk => ?_) <;> (try simp at hk)
    · rw [if_pos hk] at htk
      repeat (first
        | refine x_move rfl rfl rfl trivial ?_
        | refine x_assign rfl rfl rfl trivial ?_
        | refine x_add rfl rfl rfl (wrap_i64 (by omega) (by omega)) rfl trivial ?_
        | refine x_sub_ rfl rfl rfl (wrap_i64 (by omega) (by omega)) rfl trivial ?_
        | refine x_sub_ rfl rfl rfl (wrap_u32 (by omega) (by omega)) rfl trivial ?_
        | refine x_add rfl rfl rfl (wrap_u32 (by omega) (by omega)) rfl trivial ?_
        | refine x_peqn rfl rfl rfl rfl trivial ?_
        | refine x_pnen rfl rfl rfl rfl trivial ?_
        | refine x_mul rfl rfl rfl (wrap_i64 (by omega) (by omega)) rfl trivial ?_
        | refine x_ibin rfl rfl rfl rfl rfl trivial ?_
        | refine x_neg_ rfl rfl (wrap_i64 (by omega) (by omega)) rfl trivial ?_
        | refine x_len rfl rfl (by assumption) rfl trivial ?_
        | refine x_pick_t rfl rfl rfl rfl trivial ?_
        | refine x_pick_f rfl rfl rfl rfl trivial ?_
        | refine x_not rfl rfl rfl trivial ?_
        | refine x_beq rfl rfl rfl rfl trivial ?_
        | refine x_bne rfl rfl rfl rfl trivial ?_
        | refine x_extract rfl rfl rfl rfl trivial ?_
        | refine x_nilCheck rfl rfl rfl trivial ?_
        | refine x_fieldAddr rfl rfl rfl rfl trivial ?_
        | refine x_skip trivial rfl rfl rfl ?_
        | refine x_indexAddr1 rfl rfl rfl (by assumption) (by omega) (by omega) rfl trivial ?_
        | refine x_indexAddr rfl rfl rfl (by assumption) (by omega) (by omega) rfl trivial ?_
        | refine x_nil ?_
        | refine cw_seq ?_
        | refine nw_seq ?_
        | refine nw_block ?_
        | refine cw_block ?_
        | refine cw_skip ?_
        | refine cw_region ?_
        | refine cw_exit rfl ?_
        | refine cw_true rfl ?_
        | refine cw_false rfl ?_)
      refine x_conv_int rfl rfl rfl trivial ?_
      rw [wrap_u32 (by omega) (by omega)]
      repeat (first
        | refine x_move rfl rfl rfl trivial ?_
        | refine x_assign rfl rfl rfl trivial ?_
        | refine x_add rfl rfl rfl (wrap_i64 (by omega) (by omega)) rfl trivial ?_
        | refine x_sub_ rfl rfl rfl (wrap_i64 (by omega) (by omega)) rfl trivial ?_
        | refine x_sub_ rfl rfl rfl (wrap_u32 (by omega) (by omega)) rfl trivial ?_
        | refine x_add rfl rfl rfl (wrap_u32 (by omega) (by omega)) rfl trivial ?_
        | refine x_peqn rfl rfl rfl rfl trivial ?_
        | refine x_pnen rfl rfl rfl rfl trivial ?_
        | refine x_mul rfl rfl rfl (wrap_i64 (by omega) (by omega)) rfl trivial ?_
        | refine x_ibin rfl rfl rfl rfl rfl trivial ?_
        | refine x_neg_ rfl rfl (wrap_i64 (by omega) (by omega)) rfl trivial ?_
        | refine x_len rfl rfl (by assumption) rfl trivial ?_
        | refine x_pick_t rfl rfl rfl rfl trivial ?_
        | refine x_pick_f rfl rfl rfl rfl trivial ?_
        | refine x_not rfl rfl rfl trivial ?_
        | refine x_beq rfl rfl rfl rfl trivial ?_
        | refine x_bne rfl rfl rfl rfl trivial ?_
        | refine x_extract rfl rfl rfl rfl trivial ?_
        | refine x_nilCheck rfl rfl rfl trivial ?_
        | refine x_fieldAddr rfl rfl rfl rfl trivial ?_
        | refine x_skip trivial rfl rfl rfl ?_
        | refine x_indexAddr1 rfl rfl rfl (by assumption) (by omega) (by omega) rfl trivial ?_
        | refine x_indexAddr rfl rfl rfl (by assumption) (by omega) (by omega) rfl trivial ?_
        | refine x_nil ?_
        | refine cw_seq ?_
        | refine nw_seq ?_
        | refine nw_block ?_
        | refine cw_block ?_
        | refine cw_skip ?_
        | refine cw_region ?_
        | refine cw_exit rfl ?_
        | refine cw_true rfl ?_
        | refine cw_false rfl ?_)
      refine x_buildSlice (vs := [.int .u32 ((i : Int) + 1)]) rfl rfl rfl rfl (by omega) (oc_cons rfl oc_nil) rfl trivial ?_
      intro H4 hn4
      refine ⟨trivial, ?_⟩
      obtain ⟨q, hq1, hq2⟩ := (hV3.keepN hn4.keep).row
      refine x_append (v := v) (by rfl) (by rfl) (by rfl) rfl rfl rfl hq2 (isSl_some (Nat.le_refl _) (by omega)) (m := 1) (cx := rws encU [i + 1]) rfl (hn4.blk.cels 0 1 (by simp)) (rws_oneC (fun x hx => by simp at hx; subst hx; exact oc_cons rfl oc_nil)) (by omega) rfl trivial ?_
      intro v5 H5 hap
      refine ⟨trivial, ?_⟩
      have hV5 : Rw encU 1 Eq H5 v5 (hdl (a.cs.take (i + 1)) 1) := by
        rw [htk]
        exact Rw.app hq1 rfl (Al.one rfl) (fun _ _ h => h) hap
      have k05 := hap.old hf (k03.non_trans hn4.keep)
      have hf5 := hap.fresh hf (by have := k03.size; have := hn4.keep.size; omega)
      repeat (first
        | refine x_move rfl rfl rfl trivial ?_
        | refine x_assign rfl rfl rfl trivial ?_
        | refine x_add rfl rfl rfl (wrap_i64 (by omega) (by omega)) rfl trivial ?_
        | refine x_sub_ rfl rfl rfl (wrap_i64 (by omega) (by omega)) rfl trivial ?_
        | refine x_sub_ rfl rfl rfl (wrap_u32 (by omega) (by omega)) rfl trivial ?_
        | refine x_add rfl rfl rfl (wrap_u32 (by omega) (by omega)) rfl trivial ?_
        | refine x_peqn rfl rfl rfl rfl trivial ?_
        | refine x_pnen rfl rfl rfl rfl trivial ?_
        | refine x_mul rfl rfl rfl (wrap_i64 (by omega) (by omega)) rfl trivial ?_
        | refine x_ibin rfl rfl rfl rfl rfl trivial ?_
        | refine x_neg_ rfl rfl (wrap_i64 (by omega) (by omega)) rfl trivial ?_
        | refine x_len rfl rfl (by assumption) rfl trivial ?_
        | refine x_pick_t rfl rfl rfl rfl trivial ?_
        | refine x_pick_f rfl rfl rfl rfl trivial ?_
        | refine x_not rfl rfl rfl trivial ?_
        | refine x_beq rfl rfl rfl rfl trivial ?_
        | refine x_bne rfl rfl rfl rfl trivial ?_
        | refine x_extract rfl rfl rfl rfl trivial ?_
        | refine x_nilCheck rfl rfl rfl trivial ?_
        | refine x_fieldAddr rfl rfl rfl rfl trivial ?_
        | refine x_skip trivial rfl rfl rfl ?_
        | refine x_indexAddr1 rfl rfl rfl (by assumption) (by omega) (by omega) rfl trivial ?_
        | refine x_indexAddr rfl rfl rfl (by assumption) (by omega) (by omega) rfl trivial ?_
        | refine x_nil ?_
        | refine cw_seq ?_
        | refine nw_seq ?_
        | refine nw_block ?_
        | refine cw_block ?_
        | refine cw_skip ?_
        | refine cw_region ?_
        | refine cw_exit rfl ?_
        | refine cw_true rfl ?_
        | refine cw_false rfl ?_)
      refine nw_round (i + 1, v5) (by repeat (first | exact True.intro | refine ⟨rfl, ?_⟩)) ⟨by show i + 1 ≤ _; omega, k05, hV5, hf5⟩ (by show a.cs.length - (i + 1) < a.cs.length - i; omega)
    · rw [if_neg (by rw [hk]; simp), List.append_nil] at htk
      repeat (first
        | refine x_move rfl rfl rfl trivial ?_
        | refine x_assign rfl rfl rfl trivial ?_
        | refine x_add rfl rfl rfl (wrap_i64 (by omega) (by omega)) rfl trivial ?_
        | refine x_sub_ rfl rfl rfl (wrap_i64 (by omega) (by omega)) rfl trivial ?_
        | refine x_sub_ rfl rfl rfl (wrap_u32 (by omega) (by omega)) rfl trivial ?_
        | refine x_add rfl rfl rfl (wrap_u32 (by omega) (by omega)) rfl trivial ?_
        | refine x_peqn rfl rfl rfl rfl trivial ?_
        | refine x_pnen rfl rfl rfl rfl trivial ?_
        | refine x_mul rfl rfl rfl (wrap_i64 (by omega) (by omega)) rfl trivial ?_
        | refine x_ibin rfl rfl rfl rfl rfl trivial ?_
        | refine x_neg_ rfl rfl (wrap_i64 (by omega) (by omega)) rfl trivial ?_
        | refine x_len rfl rfl (by assumption) rfl trivial ?_
        | refine x_pick_t rfl rfl rfl rfl trivial ?_
        | refine x_pick_f rfl rfl rfl rfl trivial ?_
        | refine x_not rfl rfl rfl trivial ?_
        | refine x_beq rfl rfl rfl rfl trivial ?_
        | refine x_bne rfl rfl rfl rfl trivial ?_
        | refine x_extract rfl rfl rfl rfl trivial ?_
        | refine x_nilCheck rfl rfl rfl trivial ?_
        | refine x_fieldAddr rfl rfl rfl rfl trivial ?_
        | refine x_skip trivial rfl rfl rfl ?_
        | refine x_indexAddr1 rfl rfl rfl (by assumption) (by omega) (by omega) rfl trivial ?_
        | refine x_indexAddr rfl rfl rfl (by assumption) (by omega) (by omega) rfl trivial ?_
        | refine x_nil ?_
        | refine cw_seq ?_
        | refine nw_seq ?_
        | refine nw_block ?_
        | refine cw_block ?_
        | refine cw_skip ?_
        | refine cw_region ?_
        | refine cw_exit rfl ?_
        | refine cw_true rfl ?_
        | refine cw_false rfl ?_)
      refine nw_round (i + 1, v) (by repeat (first | exact True.intro | refine ⟨rfl, ?_⟩)) ⟨by show i + 1 ≤ _; omega, k03, by show Rw encU 1 Eq H3 v (hdl (a.cs.take (i + 1)) 1); rw [htk]; exact hV3, hf⟩ (by show a.cs.length - (i + 1) < a.cs.length - i; omega)
  · have hie : i = a.cs.length := by omega
    subst hie
    rw [List.take_length] at hV
    repeat (first
      | refine x_move rfl rfl rfl trivial ?_
      | refine x_assign rfl rfl rfl trivial ?_
      | refine x_add rfl rfl rfl (wrap_i64 (by omega) (by omega)) rfl trivial ?_
      | refine x_sub_ rfl rfl rfl (wrap_i64 (by omega) (by omega)) rfl trivial ?_
      | refine x_sub_ rfl rfl rfl (wrap_u32 (by omega) (by omega)) rfl trivial ?_
      | refine x_add rfl rfl rfl (wrap_u32 (by omega) (by omega)) rfl trivial ?_
      | refine x_peqn rfl rfl rfl rfl trivial ?_
      | refine x_pnen rfl rfl rfl rfl trivial ?_
      | refine x_mul rfl rfl rfl (wrap_i64 (by omega) (by omega)) rfl trivial ?_
      | refine x_ibin rfl rfl rfl rfl rfl trivial ?_
      | refine x_neg_ rfl rfl (wrap_i64 (by omega) (by omega)) rfl trivial ?_
      | refine x_len rfl rfl (by assumption) rfl trivial ?_
      | refine x_pick_t rfl rfl rfl rfl trivial ?_
      | refine x_pick_f rfl rfl rfl rfl trivial ?_
      | refine x_not rfl rfl rfl trivial ?_
      | refine x_beq rfl rfl rfl rfl trivial ?_
      | refine x_bne rfl rfl rfl rfl trivial ?_
      | refine x_extract rfl rfl rfl rfl trivial ?_
      | refine x_nilCheck rfl rfl rfl trivial ?_
      | refine x_fieldAddr rfl rfl rfl rfl trivial ?_
      | refine x_skip trivial rfl rfl rfl ?_
      | refine x_indexAddr1 rfl rfl rfl (by assumption) (by omega) (by omega) rfl trivial ?_
      | refine x_indexAddr rfl rfl rfl (by assumption) (by omega) (by omega) rfl trivial ?_
      | refine x_nil ?_
      | refine cw_seq ?_
      | refine nw_seq ?_
      | refine nw_block ?_
      | refine cw_block ?_
      | refine cw_skip ?_
      | refine cw_region ?_
      | refine cw_exit rfl ?_
      | refine cw_true rfl ?_
      | refine cw_false rfl ?_)
    exact cw_ret1 rfl rfl ⟨hk1, hV, hf⟩
end Go.Proofs.Ytioaicleodjmpaa.X
