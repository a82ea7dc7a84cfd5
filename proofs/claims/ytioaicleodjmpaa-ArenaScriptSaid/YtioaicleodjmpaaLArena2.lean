/- The statements on arena: the walk of ArenaScript. -/
import Derived.Test.YtioaicleodjmpaaLArena
import Derived.Test.YtioaicleodjmpaaArena3
namespace Go.Proofs.Ytioaicleodjmpaa.X
open Go Go.Proofs
set_option linter.unusedVariables false
set_option maxRecDepth 10000
set_option maxHeartbeats 4000000

theorem law_OverWords {va : Value} {m : Nat} {cs : List Value} {H : Heap} (hO : Own 1 H va m cs) (hm : m ≤ 1000000) : Ret Try.prog 20 [va] H (fun v H' => v = .tuple #[] ∧ Keep (fun b => b = sb va ∧ 0 < sc va) H H') := by
  have sA := hO.sl
  have cA := sA.cap
  refine ret_of Try.func20 rfl rfl rfl rfl ?_
  intro w0
  repeat (first
    | refine x_move rfl rfl rfl trivial ?_
    | refine x_assign rfl rfl rfl trivial ?_
    | refine x_add rfl rfl rfl (wrap_i64 (by omega) (by omega)) rfl trivial ?_
    | refine x_sub_ rfl rfl rfl (wrap_i64 (by omega) (by omega)) rfl trivial ?_
    | refine x_sub_ rfl rfl rfl (wrap_u32 (by omega) (by omega)) rfl trivial ?_
    | refine x_add rfl rfl rfl (wrap_u32 (by omega) (by omega)) rfl trivial ?_
    | refine x_peqn rfl rfl rfl rfl trivial ?_
    | refine x_pnen rfl rfl rfl rfl trivial ?_
    | refine x_mul rfl rfl rfl (wrap_i64 (by omega) (by omega)) rfl trivial ?_
    | refine x_ibin rfl rfl rfl rfl rfl trivial ?_
    | refine x_neg_ rfl rfl (wrap_i64 (by omega) (by omega)) rfl trivial ?_
    | refine x_len rfl rfl (by assumption) rfl trivial ?_
    | refine x_pick_t rfl rfl rfl rfl trivial ?_
    | refine x_pick_f rfl rfl rfl rfl trivial ?_
    | refine x_not rfl rfl rfl trivial ?_
    | refine x_beq rfl rfl rfl rfl trivial ?_
    | refine x_bne rfl rfl rfl rfl trivial ?_
    | refine x_extract rfl rfl rfl rfl trivial ?_
    | refine x_nilCheck rfl rfl rfl trivial ?_
    | refine x_fieldAddr rfl rfl rfl rfl trivial ?_
    | refine x_skip trivial rfl rfl rfl ?_
    | refine x_indexAddr1 rfl rfl rfl (by assumption) (by omega) (by omega) rfl trivial ?_
    | refine x_indexAddr rfl rfl rfl (by assumption) (by omega) (by omega) rfl trivial ?_
    | refine x_nil ?_
    | refine cw_seq ?_
    | refine nw_seq ?_
    | refine nw_block ?_
    | refine cw_block ?_
    | refine cw_skip ?_
    | refine cw_region ?_
    | refine cw_exit rfl ?_
    | refine cw_true rfl ?_
    | refine cw_false rfl ?_)
  refine cw_loop (fun j : Nat => [(0, va), (2, .int .i64 j)]) (fun j H' => j ≤ m ∧ Keep (fun b => b = sb va ∧ 0 < sc va) H H' ∧ ∃ cs', Own 1 H' va m cs') (fun j => m - j) 0 (by repeat (first | exact True.intro | refine ⟨rfl, ?_⟩)) ⟨by omega, Keep.refl _ _, cs, hO⟩ ?_
  rintro j H1 ⟨hj, hk, cs', hO'⟩
  have hl' := hO'.len
  repeat (first
    | refine x_move rfl rfl rfl trivial ?_
    | refine x_assign rfl rfl rfl trivial ?_
    | refine x_add rfl rfl rfl (wrap_i64 (by omega) (by omega)) rfl trivial ?_
    | refine x_sub_ rfl rfl rfl (wrap_i64 (by omega) (by omega)) rfl trivial ?_
    | refine x_sub_ rfl rfl rfl (wrap_u32 (by omega) (by omega)) rfl trivial ?_
    | refine x_add rfl rfl rfl (wrap_u32 (by omega) (by omega)) rfl trivial ?_
    | refine x_peqn rfl rfl rfl rfl trivial ?_
    | refine x_pnen rfl rfl rfl rfl trivial ?_
    | refine x_mul rfl rfl rfl (wrap_i64 (by omega) (by omega)) rfl trivial ?_
    | refine x_ibin rfl rfl rfl rfl rfl trivial ?_
    | refine x_neg_ rfl rfl (wrap_i64 (by omega) (by omega)) rfl trivial ?_
    | refine x_len rfl rfl (by assumption) rfl trivial ?_
    | refine x_pick_t rfl rfl rfl rfl trivial ?_
    | refine x_pick_f rfl rfl rfl rfl trivial ?_
    | refine x_not rfl rfl rfl trivial ?_
    | refine x_beq rfl rfl rfl rfl trivial ?_
    | refine x_bne rfl rfl rfl rfl trivial ?_
    | refine x_extract rfl rfl rfl rfl trivial ?_
    | refine x_nilCheck rfl rfl rfl trivial ?_
    | refine x_fieldAddr rfl rfl rfl rfl trivial ?_
    | refine x_skip trivial rfl rfl rfl ?_
    | refine x_indexAddr1 rfl rfl rfl (by assumption) (by omega) (by omega) rfl trivial ?_
    | refine x_indexAddr rfl rfl rfl (by assumption) (by omega) (by omega) rfl trivial ?_
    | refine x_nil ?_
    | refine cw_seq ?_
    | refine nw_seq ?_
    | refine nw_block ?_
    | refine cw_block ?_
    | refine cw_skip ?_
    | refine cw_region ?_
    | refine cw_exit rfl ?_
    | refine cw_true rfl ?_
    | refine cw_false rfl ?_)
  refine cw_cond rfl (fun h1 => ?_) (fun h1 => ?_) <;> (try simp at h1)
  · obtain ⟨l, hl1, hl2, hl3⟩ := hO'.store j (by omega)
    repeat (first
      | refine x_move rfl rfl rfl trivial ?_
      | refine x_assign rfl rfl rfl trivial ?_
      | refine x_add rfl rfl rfl (wrap_i64 (by omega) (by omega)) rfl trivial ?_
      | refine x_sub_ rfl rfl rfl (wrap_i64 (by omega) (by omega)) rfl trivial ?_
      | refine x_sub_ rfl rfl rfl (wrap_u32 (by omega) (by omega)) rfl trivial ?_
      | refine x_add rfl rfl rfl (wrap_u32 (by omega) (by omega)) rfl trivial ?_
      | refine x_peqn rfl rfl rfl rfl trivial ?_
      | refine x_pnen rfl rfl rfl rfl trivial ?_
      | refine x_mul rfl rfl rfl (wrap_i64 (by omega) (by omega)) rfl trivial ?_
      | refine x_ibin rfl rfl rfl rfl rfl trivial ?_
      | refine x_neg_ rfl rfl (wrap_i64 (by omega) (by omega)) rfl trivial ?_
      | refine x_len rfl rfl (by assumption) rfl trivial ?_
      | refine x_pick_t rfl rfl rfl rfl trivial ?_
      | refine x_pick_f rfl rfl rfl rfl trivial ?_
      | refine x_not rfl rfl rfl trivial ?_
      | refine x_beq rfl rfl rfl rfl trivial ?_
      | refine x_bne rfl rfl rfl rfl trivial ?_
      | refine x_extract rfl rfl rfl rfl trivial ?_
      | refine x_nilCheck rfl rfl rfl trivial ?_
      | refine x_fieldAddr rfl rfl rfl rfl trivial ?_
      | refine x_skip trivial rfl rfl rfl ?_
      | refine x_indexAddr1 rfl rfl rfl (by assumption) (by omega) (by omega) rfl trivial ?_
      | refine x_indexAddr rfl rfl rfl (by assumption) (by omega) (by omega) rfl trivial ?_
      | refine x_nil ?_
      | refine cw_seq ?_
      | refine nw_seq ?_
      | refine nw_block ?_
      | refine cw_block ?_
      | refine cw_skip ?_
      | refine cw_region ?_
      | refine cw_exit rfl ?_
      | refine cw_true rfl ?_
      | refine cw_false rfl ?_)
    refine x_store rfl rfl rfl rfl hl1 hl2 trivial ?_
    intro H2 hB2 hk2 hs2
    refine ⟨trivial, ?_⟩
    repeat (first
      | refine x_move rfl rfl rfl trivial ?_
      | refine x_assign rfl rfl rfl trivial ?_
      | refine x_add rfl rfl rfl (wrap_i64 (by omega) (by omega)) rfl trivial ?_
      | refine x_sub_ rfl rfl rfl (wrap_i64 (by omega) (by omega)) rfl trivial ?_
      | refine x_sub_ rfl rfl rfl (wrap_u32 (by omega) (by omega)) rfl trivial ?_
      | refine x_add rfl rfl rfl (wrap_u32 (by omega) (by omega)) rfl trivial ?_
      | refine x_peqn rfl rfl rfl rfl trivial ?_
      | refine x_pnen rfl rfl rfl rfl trivial ?_
      | refine x_mul rfl rfl rfl (wrap_i64 (by omega) (by omega)) rfl trivial ?_
      | refine x_ibin rfl rfl rfl rfl rfl trivial ?_
      | refine x_neg_ rfl rfl (wrap_i64 (by omega) (by omega)) rfl trivial ?_
      | refine x_len rfl rfl (by assumption) rfl trivial ?_
      | refine x_pick_t rfl rfl rfl rfl trivial ?_
      | refine x_pick_f rfl rfl rfl rfl trivial ?_
      | refine x_not rfl rfl rfl trivial ?_
      | refine x_beq rfl rfl rfl rfl trivial ?_
      | refine x_bne rfl rfl rfl rfl trivial ?_
      | refine x_extract rfl rfl rfl rfl trivial ?_
      | refine x_nilCheck rfl rfl rfl trivial ?_
      | refine x_fieldAddr rfl rfl rfl rfl trivial ?_
      | refine x_skip trivial rfl rfl rfl ?_
      | refine x_indexAddr1 rfl rfl rfl (by assumption) (by omega) (by omega) rfl trivial ?_
      | refine x_indexAddr rfl rfl rfl (by assumption) (by omega) (by omega) rfl trivial ?_
      | refine x_nil ?_
      | refine cw_seq ?_
      | refine nw_seq ?_
      | refine nw_block ?_
      | refine cw_block ?_
      | refine cw_skip ?_
      | refine cw_region ?_
      | refine cw_exit rfl ?_
      | refine cw_true rfl ?_
      | refine cw_false rfl ?_)
    exact nw_round (j + 1) (by repeat (first | exact True.intro | refine ⟨rfl, ?_⟩)) ⟨by omega, hk.step hk2 (fun b _ e => ⟨e, by omega⟩), _, hl3 _ _ hB2⟩ (by omega)
  · repeat (first
      | refine x_move rfl rfl rfl trivial ?_
      | refine x_assign rfl rfl rfl trivial ?_
      | refine x_add rfl rfl rfl (wrap_i64 (by omega) (by omega)) rfl trivial ?_
      | refine x_sub_ rfl rfl rfl (wrap_i64 (by omega) (by omega)) rfl trivial ?_
      | refine x_sub_ rfl rfl rfl (wrap_u32 (by omega) (by omega)) rfl trivial ?_
      | refine x_add rfl rfl rfl (wrap_u32 (by omega) (by omega)) rfl trivial ?_
      | refine x_peqn rfl rfl rfl rfl trivial ?_
      | refine x_pnen rfl rfl rfl rfl trivial ?_
      | refine x_mul rfl rfl rfl (wrap_i64 (by omega) (by omega)) rfl trivial ?_
      | refine x_ibin rfl rfl rfl rfl rfl trivial ?_
      | refine x_neg_ rfl rfl (wrap_i64 (by omega) (by omega)) rfl trivial ?_
      | refine x_len rfl rfl (by assumption) rfl trivial ?_
      | refine x_pick_t rfl rfl rfl rfl trivial ?_
      | refine x_pick_f rfl rfl rfl rfl trivial ?_
      | refine x_not rfl rfl rfl trivial ?_
      | refine x_beq rfl rfl rfl rfl trivial ?_
      | refine x_bne rfl rfl rfl rfl trivial ?_
      | refine x_extract rfl rfl rfl rfl trivial ?_
      | refine x_nilCheck rfl rfl rfl trivial ?_
      | refine x_fieldAddr rfl rfl rfl rfl trivial ?_
      | refine x_skip trivial rfl rfl rfl ?_
      | refine x_indexAddr1 rfl rfl rfl (by assumption) (by omega) (by omega) rfl trivial ?_
      | refine x_indexAddr rfl rfl rfl (by assumption) (by omega) (by omega) rfl trivial ?_
      | refine x_nil ?_
      | refine cw_seq ?_
      | refine nw_seq ?_
      | refine nw_block ?_
      | refine cw_block ?_
      | refine cw_skip ?_
      | refine cw_region ?_
      | refine cw_exit rfl ?_
      | refine cw_true rfl ?_
      | refine cw_false rfl ?_)
    refine x_buildSlice (vs := [.int .u64 999]) rfl rfl rfl rfl (by omega) (oc_cons rfl oc_nil) rfl trivial ?_
    intro H2 hn
    refine ⟨trivial, ?_⟩
    refine x_append (v := va) (by rfl) (by rfl) (by rfl) rfl rfl rfl (hO'.keep hn.keep (fun _ h => h)) (isSl_some (Nat.le_refl _) (by omega)) (m := 1) (cx := [.int .u64 999]) rfl (hn.blk.cels 0 1 (by simp)) (oc_cons rfl oc_nil) (by omega) rfl trivial ?_
    intro v' H3 hap
    refine ⟨trivial, ?_⟩
    repeat (first
      | refine x_move rfl rfl rfl trivial ?_
      | refine x_assign rfl rfl rfl trivial ?_
      | refine x_add rfl rfl rfl (wrap_i64 (by omega) (by omega)) rfl trivial ?_
      | refine x_sub_ rfl rfl rfl (wrap_i64 (by omega) (by omega)) rfl trivial ?_
      | refine x_sub_ rfl rfl rfl (wrap_u32 (by omega) (by omega)) rfl trivial ?_
      | refine x_add rfl rfl rfl (wrap_u32 (by omega) (by omega)) rfl trivial ?_
      | refine x_peqn rfl rfl rfl rfl trivial ?_
      | refine x_pnen rfl rfl rfl rfl trivial ?_
      | refine x_mul rfl rfl rfl (wrap_i64 (by omega) (by omega)) rfl trivial ?_
      | refine x_ibin rfl rfl rfl rfl rfl trivial ?_
      | refine x_neg_ rfl rfl (wrap_i64 (by omega) (by omega)) rfl trivial ?_
      | refine x_len rfl rfl (by assumption) rfl trivial ?_
      | refine x_pick_t rfl rfl rfl rfl trivial ?_
      | refine x_pick_f rfl rfl rfl rfl trivial ?_
      | refine x_not rfl rfl rfl trivial ?_
      | refine x_beq rfl rfl rfl rfl trivial ?_
      | refine x_bne rfl rfl rfl rfl trivial ?_
      | refine x_extract rfl rfl rfl rfl trivial ?_
      | refine x_nilCheck rfl rfl rfl trivial ?_
      | refine x_fieldAddr rfl rfl rfl rfl trivial ?_
      | refine x_skip trivial rfl rfl rfl ?_
      | refine x_indexAddr1 rfl rfl rfl (by assumption) (by omega) (by omega) rfl trivial ?_
      | refine x_indexAddr rfl rfl rfl (by assumption) (by omega) (by omega) rfl trivial ?_
      | refine x_nil ?_
      | refine cw_seq ?_
      | refine nw_seq ?_
      | refine nw_block ?_
      | refine cw_block ?_
      | refine cw_skip ?_
      | refine cw_region ?_
      | refine cw_exit rfl ?_
      | refine cw_true rfl ?_
      | refine cw_false rfl ?_)
    exact nw_end rfl ⟨rfl, (hk.step hn.keep (fun b _ h => h.elim)).step hap.keep (fun b _ h => ⟨h.1, by have := h.2.1; omega⟩)⟩

theorem law5_handles {va vb : Value} {l : List Nat} {H : Heap} (hA : Rd encU Eq H va l) (hB : Rd encU Eq H vb l) (hl : l.length ≤ 1000000) : Ret Try.prog 26 [va, vb] H (fun v H' => H = H' ∧ v = .bool true) := by
  have sA := hA.sl
  have sB := hB.sl
  have cA := sA.cap
  have cB := sB.cap
  refine ret_of Try.func26 rfl rfl rfl rfl ?_
  intro w0
  repeat (first
    | refine x_move rfl rfl rfl trivial ?_
    | refine x_assign rfl rfl rfl trivial ?_
    | refine x_add rfl rfl rfl (wrap_i64 (by omega) (by omega)) rfl trivial ?_
    | refine x_sub_ rfl rfl rfl (wrap_i64 (by omega) (by omega)) rfl trivial ?_
    | refine x_sub_ rfl rfl rfl (wrap_u32 (by omega) (by omega)) rfl trivial ?_
    | refine x_add rfl rfl rfl (wrap_u32 (by omega) (by omega)) rfl trivial ?_
    | refine x_peqn rfl rfl rfl rfl trivial ?_
    | refine x_pnen rfl rfl rfl rfl trivial ?_
    | refine x_mul rfl rfl rfl (wrap_i64 (by omega) (by omega)) rfl trivial ?_
    | refine x_ibin rfl rfl rfl rfl rfl trivial ?_
    | refine x_neg_ rfl rfl (wrap_i64 (by omega) (by omega)) rfl trivial ?_
    | refine x_len rfl rfl (by assumption) rfl trivial ?_
    | refine x_pick_t rfl rfl rfl rfl trivial ?_
    | refine x_pick_f rfl rfl rfl rfl trivial ?_
    | refine x_not rfl rfl rfl trivial ?_
    | refine x_beq rfl rfl rfl rfl trivial ?_
    | refine x_bne rfl rfl rfl rfl trivial ?_
    | refine x_extract rfl rfl rfl rfl trivial ?_
    | refine x_nilCheck rfl rfl rfl trivial ?_
    | refine x_fieldAddr rfl rfl rfl rfl trivial ?_
    | refine x_skip trivial rfl rfl rfl ?_
    | refine x_indexAddr1 rfl rfl rfl (by assumption) (by omega) (by omega) rfl trivial ?_
    | refine x_indexAddr rfl rfl rfl (by assumption) (by omega) (by omega) rfl trivial ?_
    | refine x_nil ?_
    | refine cw_seq ?_
    | refine nw_seq ?_
    | refine nw_block ?_
    | refine cw_block ?_
    | refine cw_skip ?_
    | refine cw_region ?_
    | refine cw_exit rfl ?_
    | refine cw_true rfl ?_
    | refine cw_false rfl ?_)
  refine cw_cond rfl (fun h => absurd h (by simp)) (fun _ => ?_)
  repeat (first
    | refine x_move rfl rfl rfl trivial ?_
    | refine x_assign rfl rfl rfl trivial ?_
    | refine x_add rfl rfl rfl (wrap_i64 (by omega) (by omega)) rfl trivial ?_
    | refine x_sub_ rfl rfl rfl (wrap_i64 (by omega) (by omega)) rfl trivial ?_
    | refine x_sub_ rfl rfl rfl (wrap_u32 (by omega) (by omega)) rfl trivial ?_
    | refine x_add rfl rfl rfl (wrap_u32 (by omega) (by omega)) rfl trivial ?_
    | refine x_peqn rfl rfl rfl rfl trivial ?_
    | refine x_pnen rfl rfl rfl rfl trivial ?_
    | refine x_mul rfl rfl rfl (wrap_i64 (by omega) (by omega)) rfl trivial ?_
    | refine x_ibin rfl rfl rfl rfl rfl trivial ?_
    | refine x_neg_ rfl rfl (wrap_i64 (by omega) (by omega)) rfl trivial ?_
    | refine x_len rfl rfl (by assumption) rfl trivial ?_
    | refine x_pick_t rfl rfl rfl rfl trivial ?_
    | refine x_pick_f rfl rfl rfl rfl trivial ?_
    | refine x_not rfl rfl rfl trivial ?_
    | refine x_beq rfl rfl rfl rfl trivial ?_
    | refine x_bne rfl rfl rfl rfl trivial ?_
    | refine x_extract rfl rfl rfl rfl trivial ?_
    | refine x_nilCheck rfl rfl rfl trivial ?_
    | refine x_fieldAddr rfl rfl rfl rfl trivial ?_
    | refine x_skip trivial rfl rfl rfl ?_
    | refine x_indexAddr1 rfl rfl rfl (by assumption) (by omega) (by omega) rfl trivial ?_
    | refine x_indexAddr rfl rfl rfl (by assumption) (by omega) (by omega) rfl trivial ?_
    | refine x_nil ?_
    | refine cw_seq ?_
    | refine nw_seq ?_
    | refine nw_block ?_
    | refine cw_block ?_
    | refine cw_skip ?_
    | refine cw_region ?_
    | refine cw_exit rfl ?_
    | refine cw_true rfl ?_
    | refine cw_false rfl ?_)
  refine cw_loop (fun j : Nat => [(0, va), (1, vb), (5, .int .i64 j)]) (fun j H' => H = H' ∧ j ≤ l.length) (fun j => l.length - j) 0 (by repeat (first | exact True.intro | refine ⟨rfl, ?_⟩)) ⟨rfl, Nat.zero_le _⟩ ?_
  rintro j _ ⟨rfl, hj⟩
  repeat (first
    | refine x_move rfl rfl rfl trivial ?_
    | refine x_assign rfl rfl rfl trivial ?_
    | refine x_add rfl rfl rfl (wrap_i64 (by omega) (by omega)) rfl trivial ?_
    | refine x_sub_ rfl rfl rfl (wrap_i64 (by omega) (by omega)) rfl trivial ?_
    | refine x_sub_ rfl rfl rfl (wrap_u32 (by omega) (by omega)) rfl trivial ?_
    | refine x_add rfl rfl rfl (wrap_u32 (by omega) (by omega)) rfl trivial ?_
    | refine x_peqn rfl rfl rfl rfl trivial ?_
    | refine x_pnen rfl rfl rfl rfl trivial ?_
    | refine x_mul rfl rfl rfl (wrap_i64 (by omega) (by omega)) rfl trivial ?_
    | refine x_ibin rfl rfl rfl rfl rfl trivial ?_
    | refine x_neg_ rfl rfl (wrap_i64 (by omega) (by omega)) rfl trivial ?_
    | refine x_len rfl rfl (by assumption) rfl trivial ?_
    | refine x_pick_t rfl rfl rfl rfl trivial ?_
    | refine x_pick_f rfl rfl rfl rfl trivial ?_
    | refine x_not rfl rfl rfl trivial ?_
    | refine x_beq rfl rfl rfl rfl trivial ?_
    | refine x_bne rfl rfl rfl rfl trivial ?_
    | refine x_extract rfl rfl rfl rfl trivial ?_
    | refine x_nilCheck rfl rfl rfl trivial ?_
    | refine x_fieldAddr rfl rfl rfl rfl trivial ?_
    | refine x_skip trivial rfl rfl rfl ?_
    | refine x_indexAddr1 rfl rfl rfl (by assumption) (by omega) (by omega) rfl trivial ?_
    | refine x_indexAddr rfl rfl rfl (by assumption) (by omega) (by omega) rfl trivial ?_
    | refine x_nil ?_
    | refine cw_seq ?_
    | refine nw_seq ?_
    | refine nw_block ?_
    | refine cw_block ?_
    | refine cw_skip ?_
    | refine cw_region ?_
    | refine cw_exit rfl ?_
    | refine cw_true rfl ?_
    | refine cw_false rfl ?_)
  refine cw_cond rfl (fun h1 => ?_) (fun h1 => ?_) <;> (try simp at h1)
  · obtain ⟨y, hy⟩ : ∃ y, l[j]? = some y := ⟨_, List.getElem?_eq_getElem h1⟩
    obtain ⟨a, ha, hca⟩ := hA.cel1 encU_len hy
    obtain ⟨b, hb, hcb⟩ := hB.cel1 encU_len hy
    rw [ha] at hca
    rw [hb] at hcb
    repeat (first
      | refine x_move rfl rfl rfl trivial ?_
      | refine x_assign rfl rfl rfl trivial ?_
      | refine x_add rfl rfl rfl (wrap_i64 (by omega) (by omega)) rfl trivial ?_
      | refine x_sub_ rfl rfl rfl (wrap_i64 (by omega) (by omega)) rfl trivial ?_
      | refine x_sub_ rfl rfl rfl (wrap_u32 (by omega) (by omega)) rfl trivial ?_
      | refine x_add rfl rfl rfl (wrap_u32 (by omega) (by omega)) rfl trivial ?_
      | refine x_peqn rfl rfl rfl rfl trivial ?_
      | refine x_pnen rfl rfl rfl rfl trivial ?_
      | refine x_mul rfl rfl rfl (wrap_i64 (by omega) (by omega)) rfl trivial ?_
      | refine x_ibin rfl rfl rfl rfl rfl trivial ?_
      | refine x_neg_ rfl rfl (wrap_i64 (by omega) (by omega)) rfl trivial ?_
      | refine x_len rfl rfl (by assumption) rfl trivial ?_
      | refine x_pick_t rfl rfl rfl rfl trivial ?_
      | refine x_pick_f rfl rfl rfl rfl trivial ?_
      | refine x_not rfl rfl rfl trivial ?_
      | refine x_beq rfl rfl rfl rfl trivial ?_
      | refine x_bne rfl rfl rfl rfl trivial ?_
      | refine x_extract rfl rfl rfl rfl trivial ?_
      | refine x_nilCheck rfl rfl rfl trivial ?_
      | refine x_fieldAddr rfl rfl rfl rfl trivial ?_
      | refine x_skip trivial rfl rfl rfl ?_
      | refine x_indexAddr1 rfl rfl rfl (by assumption) (by omega) (by omega) rfl trivial ?_
      | refine x_indexAddr rfl rfl rfl (by assumption) (by omega) (by omega) rfl trivial ?_
      | refine x_nil ?_
      | refine cw_seq ?_
      | refine nw_seq ?_
      | refine nw_block ?_
      | refine cw_block ?_
      | refine cw_skip ?_
      | refine cw_region ?_
      | refine cw_exit rfl ?_
      | refine cw_true rfl ?_
      | refine cw_false rfl ?_)
    refine cw_quiet mixed (by kernel_rfl) ?_
    repeat (first
      | refine x_move rfl rfl rfl trivial ?_
      | refine x_assign rfl rfl rfl trivial ?_
      | refine x_add rfl rfl rfl (wrap_i64 (by omega) (by omega)) rfl trivial ?_
      | refine x_sub_ rfl rfl rfl (wrap_i64 (by omega) (by omega)) rfl trivial ?_
      | refine x_sub_ rfl rfl rfl (wrap_u32 (by omega) (by omega)) rfl trivial ?_
      | refine x_add rfl rfl rfl (wrap_u32 (by omega) (by omega)) rfl trivial ?_
      | refine x_peqn rfl rfl rfl rfl trivial ?_
      | refine x_pnen rfl rfl rfl rfl trivial ?_
      | refine x_mul rfl rfl rfl (wrap_i64 (by omega) (by omega)) rfl trivial ?_
      | refine x_ibin rfl rfl rfl rfl rfl trivial ?_
      | refine x_neg_ rfl rfl (wrap_i64 (by omega) (by omega)) rfl trivial ?_
      | refine x_len rfl rfl (by assumption) rfl trivial ?_
      | refine x_pick_t rfl rfl rfl rfl trivial ?_
      | refine x_pick_f rfl rfl rfl rfl trivial ?_
      | refine x_not rfl rfl rfl trivial ?_
      | refine x_beq rfl rfl rfl rfl trivial ?_
      | refine x_bne rfl rfl rfl rfl trivial ?_
      | refine x_extract rfl rfl rfl rfl trivial ?_
      | refine x_nilCheck rfl rfl rfl trivial ?_
      | refine x_fieldAddr rfl rfl rfl rfl trivial ?_
      | refine x_skip trivial rfl rfl rfl ?_
      | refine x_indexAddr1 rfl rfl rfl (by assumption) (by omega) (by omega) rfl trivial ?_
      | refine x_indexAddr rfl rfl rfl (by assumption) (by omega) (by omega) rfl trivial ?_
      | refine x_nil ?_
      | refine cw_seq ?_
      | refine nw_seq ?_
      | refine nw_block ?_
      | refine cw_block ?_
      | refine cw_skip ?_
      | refine cw_region ?_
      | refine cw_exit rfl ?_
      | refine cw_true rfl ?_
      | refine cw_false rfl ?_)
    refine x_load rfl rfl (hpmt (hca)) rfl trivial ?_
    repeat (first
      | refine x_move rfl rfl rfl trivial ?_
      | refine x_assign rfl rfl rfl trivial ?_
      | refine x_add rfl rfl rfl (wrap_i64 (by omega) (by omega)) rfl trivial ?_
      | refine x_sub_ rfl rfl rfl (wrap_i64 (by omega) (by omega)) rfl trivial ?_
      | refine x_sub_ rfl rfl rfl (wrap_u32 (by omega) (by omega)) rfl trivial ?_
      | refine x_add rfl rfl rfl (wrap_u32 (by omega) (by omega)) rfl trivial ?_
      | refine x_peqn rfl rfl rfl rfl trivial ?_
      | refine x_pnen rfl rfl rfl rfl trivial ?_
      | refine x_mul rfl rfl rfl (wrap_i64 (by omega) (by omega)) rfl trivial ?_
      | refine x_ibin rfl rfl rfl rfl rfl trivial ?_
      | refine x_neg_ rfl rfl (wrap_i64 (by omega) (by omega)) rfl trivial ?_
      | refine x_len rfl rfl (by assumption) rfl trivial ?_
      | refine x_pick_t rfl rfl rfl rfl trivial ?_
      | refine x_pick_f rfl rfl rfl rfl trivial ?_
      | refine x_not rfl rfl rfl trivial ?_
      | refine x_beq rfl rfl rfl rfl trivial ?_
      | refine x_bne rfl rfl rfl rfl trivial ?_
      | refine x_extract rfl rfl rfl rfl trivial ?_
      | refine x_nilCheck rfl rfl rfl trivial ?_
      | refine x_fieldAddr rfl rfl rfl rfl trivial ?_
      | refine x_skip trivial rfl rfl rfl ?_
      | refine x_indexAddr1 rfl rfl rfl (by assumption) (by omega) (by omega) rfl trivial ?_
      | refine x_indexAddr rfl rfl rfl (by assumption) (by omega) (by omega) rfl trivial ?_
      | refine x_nil ?_
      | refine cw_seq ?_
      | refine nw_seq ?_
      | refine nw_block ?_
      | refine cw_block ?_
      | refine cw_skip ?_
      | refine cw_region ?_
      | refine cw_exit rfl ?_
      | refine cw_true rfl ?_
      | refine cw_false rfl ?_)
    refine x_load rfl rfl (hpmt (hcb)) rfl trivial ?_
    repeat (first
      | refine x_move rfl rfl rfl trivial ?_
      | refine x_assign rfl rfl rfl trivial ?_
      | refine x_add rfl rfl rfl (wrap_i64 (by omega) (by omega)) rfl trivial ?_
      | refine x_sub_ rfl rfl rfl (wrap_i64 (by omega) (by omega)) rfl trivial ?_
      | refine x_sub_ rfl rfl rfl (wrap_u32 (by omega) (by omega)) rfl trivial ?_
      | refine x_add rfl rfl rfl (wrap_u32 (by omega) (by omega)) rfl trivial ?_
      | refine x_peqn rfl rfl rfl rfl trivial ?_
      | refine x_pnen rfl rfl rfl rfl trivial ?_
      | refine x_mul rfl rfl rfl (wrap_i64 (by omega) (by omega)) rfl trivial ?_
      | refine x_ibin rfl rfl rfl rfl rfl trivial ?_
      | refine x_neg_ rfl rfl (wrap_i64 (by omega) (by omega)) rfl trivial ?_
      | refine x_len rfl rfl (by assumption) rfl trivial ?_
      | refine x_pick_t rfl rfl rfl rfl trivial ?_
      | refine x_pick_f rfl rfl rfl rfl trivial ?_
      | refine x_not rfl rfl rfl trivial ?_
      | refine x_beq rfl rfl rfl rfl trivial ?_
      | refine x_bne rfl rfl rfl rfl trivial ?_
      | refine x_extract rfl rfl rfl rfl trivial ?_
      | refine x_nilCheck rfl rfl rfl trivial ?_
      | refine x_fieldAddr rfl rfl rfl rfl trivial ?_
      | refine x_skip trivial rfl rfl rfl ?_
      | refine x_indexAddr1 rfl rfl rfl (by assumption) (by omega) (by omega) rfl trivial ?_
      | refine x_indexAddr rfl rfl rfl (by assumption) (by omega) (by omega) rfl trivial ?_
      | refine x_nil ?_
      | refine cw_seq ?_
      | refine nw_seq ?_
      | refine nw_block ?_
      | refine cw_block ?_
      | refine cw_skip ?_
      | refine cw_region ?_
      | refine cw_exit rfl ?_
      | refine cw_true rfl ?_
      | refine cw_false rfl ?_)
    refine cw_cond rfl (fun h => absurd h (by simp)) (fun _ => ?_)
    repeat (first
      | refine x_move rfl rfl rfl trivial ?_
      | refine x_assign rfl rfl rfl trivial ?_
      | refine x_add rfl rfl rfl (wrap_i64 (by omega) (by omega)) rfl trivial ?_
      | refine x_sub_ rfl rfl rfl (wrap_i64 (by omega) (by omega)) rfl trivial ?_
      | refine x_sub_ rfl rfl rfl (wrap_u32 (by omega) (by omega)) rfl trivial ?_
      | refine x_add rfl rfl rfl (wrap_u32 (by omega) (by omega)) rfl trivial ?_
      | refine x_peqn rfl rfl rfl rfl trivial ?_
      | refine x_pnen rfl rfl rfl rfl trivial ?_
      | refine x_mul rfl rfl rfl (wrap_i64 (by omega) (by omega)) rfl trivial ?_
      | refine x_ibin rfl rfl rfl rfl rfl trivial ?_
      | refine x_neg_ rfl rfl (wrap_i64 (by omega) (by omega)) rfl trivial ?_
      | refine x_len rfl rfl (by assumption) rfl trivial ?_
      | refine x_pick_t rfl rfl rfl rfl trivial ?_
      | refine x_pick_f rfl rfl rfl rfl trivial ?_
      | refine x_not rfl rfl rfl trivial ?_
      | refine x_beq rfl rfl rfl rfl trivial ?_
      | refine x_bne rfl rfl rfl rfl trivial ?_
      | refine x_extract rfl rfl rfl rfl trivial ?_
      | refine x_nilCheck rfl rfl rfl trivial ?_
      | refine x_fieldAddr rfl rfl rfl rfl trivial ?_
      | refine x_skip trivial rfl rfl rfl ?_
      | refine x_indexAddr1 rfl rfl rfl (by assumption) (by omega) (by omega) rfl trivial ?_
      | refine x_indexAddr rfl rfl rfl (by assumption) (by omega) (by omega) rfl trivial ?_
      | refine x_nil ?_
      | refine cw_seq ?_
      | refine nw_seq ?_
      | refine nw_block ?_
      | refine cw_block ?_
      | refine cw_skip ?_
      | refine cw_region ?_
      | refine cw_exit rfl ?_
      | refine cw_true rfl ?_
      | refine cw_false rfl ?_)
    exact nw_round (j + 1) (by repeat (first | exact True.intro | refine ⟨rfl, ?_⟩)) ⟨rfl, by omega⟩ (by omega)
  · repeat (first
      | refine x_move rfl rfl rfl trivial ?_
      | refine x_assign rfl rfl rfl trivial ?_
      | refine x_add rfl rfl rfl (wrap_i64 (by omega) (by omega)) rfl trivial ?_
      | refine x_sub_ rfl rfl rfl (wrap_i64 (by omega) (by omega)) rfl trivial ?_
      | refine x_sub_ rfl rfl rfl (wrap_u32 (by omega) (by omega)) rfl trivial ?_
      | refine x_add rfl rfl rfl (wrap_u32 (by omega) (by omega)) rfl trivial ?_
      | refine x_peqn rfl rfl rfl rfl trivial ?_
      | refine x_pnen rfl rfl rfl rfl trivial ?_
      | refine x_mul rfl rfl rfl (wrap_i64 (by omega) (by omega)) rfl trivial ?_
      | refine x_ibin rfl rfl rfl rfl rfl trivial ?_
      | refine x_neg_ rfl rfl (wrap_i64 (by omega) (by omega)) rfl trivial ?_
      | refine x_len rfl rfl (by assumption) rfl trivial ?_
      | refine x_pick_t rfl rfl rfl rfl trivial ?_
      | refine x_pick_f rfl rfl rfl rfl trivial ?_
      | refine x_not rfl rfl rfl trivial ?_
      | refine x_beq rfl rfl rfl rfl trivial ?_
      | refine x_bne rfl rfl rfl rfl trivial ?_
      | refine x_extract rfl rfl rfl rfl trivial ?_
      | refine x_nilCheck rfl rfl rfl trivial ?_
      | refine x_fieldAddr rfl rfl rfl rfl trivial ?_
      | refine x_skip trivial rfl rfl rfl ?_
      | refine x_indexAddr1 rfl rfl rfl (by assumption) (by omega) (by omega) rfl trivial ?_
      | refine x_indexAddr rfl rfl rfl (by assumption) (by omega) (by omega) rfl trivial ?_
      | refine x_nil ?_
      | refine cw_seq ?_
      | refine nw_seq ?_
      | refine nw_block ?_
      | refine cw_block ?_
      | refine cw_skip ?_
      | refine cw_region ?_
      | refine cw_exit rfl ?_
      | refine cw_true rfl ?_
      | refine cw_false rfl ?_)
    exact cw_ret1 rfl rfl ⟨rfl, rfl⟩

abbrev Aa := Int × Int × Nat × List Int
def encAa (a : Int × Int × Int × Value) : List Value := [.int .i64 a.1, .int .i64 a.2.1, .int .u32 a.2.2.1, a.2.2.2]
theorem encAa_len (a : Int × Int × Int × Value) : (encAa a).length = 4 := rfl
def AaR (H : Heap) (x : Int × Int × Int × Value) (y : Aa) : Prop := x.1 = y.1 ∧ x.2.1 = y.2.1 ∧ x.2.2.1 = (y.2.2.1 : Int) ∧ y.2.2.1 < 4294967296 ∧ Ws H x.2.2.2 y.2.2.2
theorem aaR_cells {H : Heap} {x : Int × Int × Int × Value} {y : Aa} (h : AaR H x y) : ∃ v, encAa x = [.int .i64 y.1, .int .i64 y.2.1, .int .u32 (y.2.2.1 : Nat), v] ∧ y.2.2.1 < 4294967296 ∧ Ws H v y.2.2.2 := by
  obtain ⟨h1, h2, h3, h4, h5⟩ := h
  refine ⟨x.2.2.2, ?_, h4, h5⟩
  unfold encAa
  rw [h1, h2, h3]
theorem Ws.keepN {H H' : Heap} {v : Value} {l : List Int} (h : Ws H v l) (k : Keep Non H H') : Ws H' v l := ⟨h.1, h.2.keep k (fun _ h => h)⟩
theorem hdl_bd (a : Ar) : (handlesA a).length ≤ a.cs.length := by
  unfold handlesA
  rw [hdl_length]
  exact takenA_le _

theorem walk_ArenaScript {most : Int} {va : Value} {acts : List Aa} {H : Heap} (hA : Rd encAa (AaR H) H va acts) :
    Ret Try.prog 7 [.int .i64 most, va] H (Yes H) := by
  have sA := hA.sl
  have cA := sA.cap
  refine ret_of Try.func7 rfl rfl rfl rfl ?_
  intro w0
  repeat (first
    | refine x_move rfl rfl rfl trivial ?_
    | refine x_assign rfl rfl rfl trivial ?_
    | refine x_add rfl rfl rfl (wrap_i64 (by omega) (by omega)) rfl trivial ?_
    | refine x_sub_ rfl rfl rfl (wrap_i64 (by omega) (by omega)) rfl trivial ?_
    | refine x_sub_ rfl rfl rfl (wrap_u32 (by omega) (by omega)) rfl trivial ?_
    | refine x_add rfl rfl rfl (wrap_u32 (by omega) (by omega)) rfl trivial ?_
    | refine x_peqn rfl rfl rfl rfl trivial ?_
    | refine x_pnen rfl rfl rfl rfl trivial ?_
    | refine x_mul rfl rfl rfl (wrap_i64 (by omega) (by omega)) rfl trivial ?_
    | refine x_ibin rfl rfl rfl rfl rfl trivial ?_
    | refine x_neg_ rfl rfl (wrap_i64 (by omega) (by omega)) rfl trivial ?_
    | refine x_len rfl rfl (by assumption) rfl trivial ?_
    | refine x_pick_t rfl rfl rfl rfl trivial ?_
    | refine x_pick_f rfl rfl rfl rfl trivial ?_
    | refine x_not rfl rfl rfl trivial ?_
    | refine x_beq rfl rfl rfl rfl trivial ?_
    | refine x_bne rfl rfl rfl rfl trivial ?_
    | refine x_extract rfl rfl rfl rfl trivial ?_
    | refine x_nilCheck rfl rfl rfl trivial ?_
    | refine x_fieldAddr rfl rfl rfl rfl trivial ?_
    | refine x_skip trivial rfl rfl rfl ?_
    | refine x_indexAddr1 rfl rfl rfl (by assumption) (by omega) (by omega) rfl trivial ?_
    | refine x_indexAddr rfl rfl rfl (by assumption) (by omega) (by omega) rfl trivial ?_
    | refine x_nil ?_
    | refine cw_seq ?_
    | refine nw_seq ?_
    | refine nw_block ?_
    | refine cw_block ?_
    | refine cw_skip ?_
    | refine cw_region ?_
    | refine cw_exit rfl ?_
    | refine cw_true rfl ?_
    | refine cw_false rfl ?_)
  refine x_split 25 rfl (fun hlen => ?_) (fun hlen => ?_) <;> (try simp at hlen)
  · repeat (first
      | refine x_move rfl rfl rfl trivial ?_
      | refine x_assign rfl rfl rfl trivial ?_
      | refine x_add rfl rfl rfl (wrap_i64 (by omega) (by omega)) rfl trivial ?_
      | refine x_sub_ rfl rfl rfl (wrap_i64 (by omega) (by omega)) rfl trivial ?_
      | refine x_sub_ rfl rfl rfl (wrap_u32 (by omega) (by omega)) rfl trivial ?_
      | refine x_add rfl rfl rfl (wrap_u32 (by omega) (by omega)) rfl trivial ?_
      | refine x_peqn rfl rfl rfl rfl trivial ?_
      | refine x_pnen rfl rfl rfl rfl trivial ?_
      | refine x_mul rfl rfl rfl (wrap_i64 (by omega) (by omega)) rfl trivial ?_
      | refine x_ibin rfl rfl rfl rfl rfl trivial ?_
      | refine x_neg_ rfl rfl (wrap_i64 (by omega) (by omega)) rfl trivial ?_
      | refine x_len rfl rfl (by assumption) rfl trivial ?_
      | refine x_pick_t rfl rfl rfl rfl trivial ?_
      | refine x_pick_f rfl rfl rfl rfl trivial ?_
      | refine x_not rfl rfl rfl trivial ?_
      | refine x_beq rfl rfl rfl rfl trivial ?_
      | refine x_bne rfl rfl rfl rfl trivial ?_
      | refine x_extract rfl rfl rfl rfl trivial ?_
      | refine x_nilCheck rfl rfl rfl trivial ?_
      | refine x_fieldAddr rfl rfl rfl rfl trivial ?_
      | refine x_skip trivial rfl rfl rfl ?_
      | refine x_indexAddr1 rfl rfl rfl (by assumption) (by omega) (by omega) rfl trivial ?_
      | refine x_indexAddr rfl rfl rfl (by assumption) (by omega) (by omega) rfl trivial ?_
      | refine x_nil ?_
      | refine cw_seq ?_
      | refine nw_seq ?_
      | refine nw_block ?_
      | refine cw_block ?_
      | refine cw_skip ?_
      | refine cw_region ?_
      | refine cw_exit rfl ?_
      | refine cw_true rfl ?_
      | refine cw_false rfl ?_)
    refine x_call rfl rfl rfl trivial (awake5 _) ?_
    rintro _ Hz ⟨rfl, hkz⟩
    refine ⟨trivial, ?_⟩
    repeat (first
      | refine x_move rfl rfl rfl trivial ?_
      | refine x_assign rfl rfl rfl trivial ?_
      | refine x_add rfl rfl rfl (wrap_i64 (by omega) (by omega)) rfl trivial ?_
      | refine x_sub_ rfl rfl rfl (wrap_i64 (by omega) (by omega)) rfl trivial ?_
      | refine x_sub_ rfl rfl rfl (wrap_u32 (by omega) (by omega)) rfl trivial ?_
      | refine x_add rfl rfl rfl (wrap_u32 (by omega) (by omega)) rfl trivial ?_
      | refine x_peqn rfl rfl rfl rfl trivial ?_
      | refine x_pnen rfl rfl rfl rfl trivial ?_
      | refine x_mul rfl rfl rfl (wrap_i64 (by omega) (by omega)) rfl trivial ?_
      | refine x_ibin rfl rfl rfl rfl rfl trivial ?_
      | refine x_neg_ rfl rfl (wrap_i64 (by omega) (by omega)) rfl trivial ?_
      | refine x_len rfl rfl (by assumption) rfl trivial ?_
      | refine x_pick_t rfl rfl rfl rfl trivial ?_
      | refine x_pick_f rfl rfl rfl rfl trivial ?_
      | refine x_not rfl rfl rfl trivial ?_
      | refine x_beq rfl rfl rfl rfl trivial ?_
      | refine x_bne rfl rfl rfl rfl trivial ?_
      | refine x_extract rfl rfl rfl rfl trivial ?_
      | refine x_nilCheck rfl rfl rfl trivial ?_
      | refine x_fieldAddr rfl rfl rfl rfl trivial ?_
      | refine x_skip trivial rfl rfl rfl ?_
      | refine x_indexAddr1 rfl rfl rfl (by assumption) (by omega) (by omega) rfl trivial ?_
      | refine x_indexAddr rfl rfl rfl (by assumption) (by omega) (by omega) rfl trivial ?_
      | refine x_nil ?_
      | refine cw_seq ?_
      | refine nw_seq ?_
      | refine nw_block ?_
      | refine cw_block ?_
      | refine cw_skip ?_
      | refine cw_region ?_
      | refine cw_exit rfl ?_
      | refine cw_true rfl ?_
      | refine cw_false rfl ?_)
    exact cw_ret1 rfl rfl ⟨rfl, (Keep.refl Non H).non_trans hkz⟩
  repeat (first
    | refine x_move rfl rfl rfl trivial ?_
    | refine x_assign rfl rfl rfl trivial ?_
    | refine x_add rfl rfl rfl (wrap_i64 (by omega) (by omega)) rfl trivial ?_
    | refine x_sub_ rfl rfl rfl (wrap_i64 (by omega) (by omega)) rfl trivial ?_
    | refine x_sub_ rfl rfl rfl (wrap_u32 (by omega) (by omega)) rfl trivial ?_
    | refine x_add rfl rfl rfl (wrap_u32 (by omega) (by omega)) rfl trivial ?_
    | refine x_peqn rfl rfl rfl rfl trivial ?_
    | refine x_pnen rfl rfl rfl rfl trivial ?_
    | refine x_mul rfl rfl rfl (wrap_i64 (by omega) (by omega)) rfl trivial ?_
    | refine x_ibin rfl rfl rfl rfl rfl trivial ?_
    | refine x_neg_ rfl rfl (wrap_i64 (by omega) (by omega)) rfl trivial ?_
    | refine x_len rfl rfl (by assumption) rfl trivial ?_
    | refine x_pick_t rfl rfl rfl rfl trivial ?_
    | refine x_pick_f rfl rfl rfl rfl trivial ?_
    | refine x_not rfl rfl rfl trivial ?_
    | refine x_beq rfl rfl rfl rfl trivial ?_
    | refine x_bne rfl rfl rfl rfl trivial ?_
    | refine x_extract rfl rfl rfl rfl trivial ?_
    | refine x_nilCheck rfl rfl rfl trivial ?_
    | refine x_fieldAddr rfl rfl rfl rfl trivial ?_
    | refine x_skip trivial rfl rfl rfl ?_
    | refine x_indexAddr1 rfl rfl rfl (by assumption) (by omega) (by omega) rfl trivial ?_
    | refine x_indexAddr rfl rfl rfl (by assumption) (by omega) (by omega) rfl trivial ?_
    | refine x_nil ?_
    | refine cw_seq ?_
    | refine nw_seq ?_
    | refine nw_block ?_
    | refine cw_block ?_
    | refine cw_skip ?_
    | refine cw_region ?_
    | refine cw_exit rfl ?_
    | refine cw_true rfl ?_
    | refine cw_false rfl ?_)
  refine cw_cond rfl (fun hmost => ?_) (fun hmost => ?_) <;> (try simp at hmost)
  · repeat (first
      | refine x_move rfl rfl rfl trivial ?_
      | refine x_assign rfl rfl rfl trivial ?_
      | refine x_add rfl rfl rfl (wrap_i64 (by omega) (by omega)) rfl trivial ?_
      | refine x_sub_ rfl rfl rfl (wrap_i64 (by omega) (by omega)) rfl trivial ?_
      | refine x_sub_ rfl rfl rfl (wrap_u32 (by omega) (by omega)) rfl trivial ?_
      | refine x_add rfl rfl rfl (wrap_u32 (by omega) (by omega)) rfl trivial ?_
      | refine x_peqn rfl rfl rfl rfl trivial ?_
      | refine x_pnen rfl rfl rfl rfl trivial ?_
      | refine x_mul rfl rfl rfl (wrap_i64 (by omega) (by omega)) rfl trivial ?_
      | refine x_ibin rfl rfl rfl rfl rfl trivial ?_
      | refine x_neg_ rfl rfl (wrap_i64 (by omega) (by omega)) rfl trivial ?_
      | refine x_len rfl rfl (by assumption) rfl trivial ?_
      | refine x_pick_t rfl rfl rfl rfl trivial ?_
      | refine x_pick_f rfl rfl rfl rfl trivial ?_
      | refine x_not rfl rfl rfl trivial ?_
      | refine x_beq rfl rfl rfl rfl trivial ?_
      | refine x_bne rfl rfl rfl rfl trivial ?_
      | refine x_extract rfl rfl rfl rfl trivial ?_
      | refine x_nilCheck rfl rfl rfl trivial ?_
      | refine x_fieldAddr rfl rfl rfl rfl trivial ?_
      | refine x_skip trivial rfl rfl rfl ?_
      | refine x_indexAddr1 rfl rfl rfl (by assumption) (by omega) (by omega) rfl trivial ?_
      | refine x_indexAddr rfl rfl rfl (by assumption) (by omega) (by omega) rfl trivial ?_
      | refine x_nil ?_
      | refine cw_seq ?_
      | refine nw_seq ?_
      | refine nw_block ?_
      | refine cw_block ?_
      | refine cw_skip ?_
      | refine cw_region ?_
      | refine cw_exit rfl ?_
      | refine cw_true rfl ?_
      | refine cw_false rfl ?_)
    refine x_call rfl rfl rfl trivial (awake5 _) ?_
    rintro _ Hz ⟨rfl, hkz⟩
    refine ⟨trivial, ?_⟩
    repeat (first
      | refine x_move rfl rfl rfl trivial ?_
      | refine x_assign rfl rfl rfl trivial ?_
      | refine x_add rfl rfl rfl (wrap_i64 (by omega) (by omega)) rfl trivial ?_
      | refine x_sub_ rfl rfl rfl (wrap_i64 (by omega) (by omega)) rfl trivial ?_
      | refine x_sub_ rfl rfl rfl (wrap_u32 (by omega) (by omega)) rfl trivial ?_
      | refine x_add rfl rfl rfl (wrap_u32 (by omega) (by omega)) rfl trivial ?_
      | refine x_peqn rfl rfl rfl rfl trivial ?_
      | refine x_pnen rfl rfl rfl rfl trivial ?_
      | refine x_mul rfl rfl rfl (wrap_i64 (by omega) (by omega)) rfl trivial ?_
      | refine x_ibin rfl rfl rfl rfl rfl trivial ?_
      | refine x_neg_ rfl rfl (wrap_i64 (by omega) (by omega)) rfl trivial ?_
      | refine x_len rfl rfl (by assumption) rfl trivial ?_
      | refine x_pick_t rfl rfl rfl rfl trivial ?_
      | refine x_pick_f rfl rfl rfl rfl trivial ?_
      | refine x_not rfl rfl rfl trivial ?_
      | refine x_beq rfl rfl rfl rfl trivial ?_
      | refine x_bne rfl rfl rfl rfl trivial ?_
      | refine x_extract rfl rfl rfl rfl trivial ?_
      | refine x_nilCheck rfl rfl rfl trivial ?_
      | refine x_fieldAddr rfl rfl rfl rfl trivial ?_
      | refine x_skip trivial rfl rfl rfl ?_
      | refine x_indexAddr1 rfl rfl rfl (by assumption) (by omega) (by omega) rfl trivial ?_
      | refine x_indexAddr rfl rfl rfl (by assumption) (by omega) (by omega) rfl trivial ?_
      | refine x_nil ?_
      | refine cw_seq ?_
      | refine nw_seq ?_
      | refine nw_block ?_
      | refine cw_block ?_
      | refine cw_skip ?_
      | refine cw_region ?_
      | refine cw_exit rfl ?_
      | refine cw_true rfl ?_
      | refine cw_false rfl ?_)
    exact cw_ret1 rfl rfl ⟨rfl, (Keep.refl Non H).non_trans hkz⟩
  · repeat (first
      | refine x_move rfl rfl rfl trivial ?_
      | refine x_assign rfl rfl rfl trivial ?_
      | refine x_add rfl rfl rfl (wrap_i64 (by omega) (by omega)) rfl trivial ?_
      | refine x_sub_ rfl rfl rfl (wrap_i64 (by omega) (by omega)) rfl trivial ?_
      | refine x_sub_ rfl rfl rfl (wrap_u32 (by omega) (by omega)) rfl trivial ?_
      | refine x_add rfl rfl rfl (wrap_u32 (by omega) (by omega)) rfl trivial ?_
      | refine x_peqn rfl rfl rfl rfl trivial ?_
      | refine x_pnen rfl rfl rfl rfl trivial ?_
      | refine x_mul rfl rfl rfl (wrap_i64 (by omega) (by omega)) rfl trivial ?_
      | refine x_ibin rfl rfl rfl rfl rfl trivial ?_
      | refine x_neg_ rfl rfl (wrap_i64 (by omega) (by omega)) rfl trivial ?_
      | refine x_len rfl rfl (by assumption) rfl trivial ?_
      | refine x_pick_t rfl rfl rfl rfl trivial ?_
      | refine x_pick_f rfl rfl rfl rfl trivial ?_
      | refine x_not rfl rfl rfl trivial ?_
      | refine x_beq rfl rfl rfl rfl trivial ?_
      | refine x_bne rfl rfl rfl rfl trivial ?_
      | refine x_extract rfl rfl rfl rfl trivial ?_
      | refine x_nilCheck rfl rfl rfl trivial ?_
      | refine x_fieldAddr rfl rfl rfl rfl trivial ?_
      | refine x_skip trivial rfl rfl rfl ?_
      | refine x_indexAddr1 rfl rfl rfl (by assumption) (by omega) (by omega) rfl trivial ?_
      | refine x_indexAddr rfl rfl rfl (by assumption) (by omega) (by omega) rfl trivial ?_
      | refine x_nil ?_
      | refine cw_seq ?_
      | refine nw_seq ?_
      | refine nw_block ?_
      | refine cw_block ?_
      | refine cw_skip ?_
      | refine cw_region ?_
      | refine cw_exit rfl ?_
      | refine cw_true rfl ?_
      | refine cw_false rfl ?_)
    refine x_call rfl rfl rfl trivial (arena_New most H) ?_
    rintro _ H1 hN
    refine ⟨trivial, ?_⟩
    repeat (first
      | refine x_move rfl rfl rfl trivial ?_
      | refine x_assign rfl rfl rfl trivial ?_
      | refine x_add rfl rfl rfl (wrap_i64 (by omega) (by omega)) rfl trivial ?_
      | refine x_sub_ rfl rfl rfl (wrap_i64 (by omega) (by omega)) rfl trivial ?_
      | refine x_sub_ rfl rfl rfl (wrap_u32 (by omega) (by omega)) rfl trivial ?_
      | refine x_add rfl rfl rfl (wrap_u32 (by omega) (by omega)) rfl trivial ?_
      | refine x_peqn rfl rfl rfl rfl trivial ?_
      | refine x_pnen rfl rfl rfl rfl trivial ?_
      | refine x_mul rfl rfl rfl (wrap_i64 (by omega) (by omega)) rfl trivial ?_
      | refine x_ibin rfl rfl rfl rfl rfl trivial ?_
      | refine x_neg_ rfl rfl (wrap_i64 (by omega) (by omega)) rfl trivial ?_
      | refine x_len rfl rfl (by assumption) rfl trivial ?_
      | refine x_pick_t rfl rfl rfl rfl trivial ?_
      | refine x_pick_f rfl rfl rfl rfl trivial ?_
      | refine x_not rfl rfl rfl trivial ?_
      | refine x_beq rfl rfl rfl rfl trivial ?_
      | refine x_bne rfl rfl rfl rfl trivial ?_
      | refine x_extract rfl rfl rfl rfl trivial ?_
      | refine x_nilCheck rfl rfl rfl trivial ?_
      | refine x_fieldAddr rfl rfl rfl rfl trivial ?_
      | refine x_skip trivial rfl rfl rfl ?_
      | refine x_indexAddr1 rfl rfl rfl (by assumption) (by omega) (by omega) rfl trivial ?_
      | refine x_indexAddr rfl rfl rfl (by assumption) (by omega) (by omega) rfl trivial ?_
      | refine x_nil ?_
      | refine cw_seq ?_
      | refine nw_seq ?_
      | refine nw_block ?_
      | refine cw_block ?_
      | refine cw_skip ?_
      | refine cw_region ?_
      | refine cw_exit rfl ?_
      | refine cw_true rfl ?_
      | refine cw_false rfl ?_)
    refine x_call rfl rfl rfl trivial (ref5_New most H1) ?_
    rintro _ H2 hN2
    refine ⟨trivial, ?_⟩
    rcases hN with ⟨hm, rfl, rfl⟩ | ⟨hm, hk1, b, K, rfl, hS, hf⟩
    · rcases hN2 with ⟨_, rfl, rfl⟩ | ⟨h, _⟩
      · repeat (first
          | refine x_move rfl rfl rfl trivial ?_
          | refine x_assign rfl rfl rfl trivial ?_
          | refine x_add rfl rfl rfl (wrap_i64 (by omega) (by omega)) rfl trivial ?_
          | refine x_sub_ rfl rfl rfl (wrap_i64 (by omega) (by omega)) rfl trivial ?_
          | refine x_sub_ rfl rfl rfl (wrap_u32 (by omega) (by omega)) rfl trivial ?_
          | refine x_add rfl rfl rfl (wrap_u32 (by omega) (by omega)) rfl trivial ?_
          | refine x_peqn rfl rfl rfl rfl trivial ?_
          | refine x_pnen rfl rfl rfl rfl trivial ?_
          | refine x_mul rfl rfl rfl (wrap_i64 (by omega) (by omega)) rfl trivial ?_
          | refine x_ibin rfl rfl rfl rfl rfl trivial ?_
          | refine x_neg_ rfl rfl (wrap_i64 (by omega) (by omega)) rfl trivial ?_
          | refine x_len rfl rfl (by assumption) rfl trivial ?_
          | refine x_pick_t rfl rfl rfl rfl trivial ?_
          | refine x_pick_f rfl rfl rfl rfl trivial ?_
          | refine x_not rfl rfl rfl trivial ?_
          | refine x_beq rfl rfl rfl rfl trivial ?_
          | refine x_bne rfl rfl rfl rfl trivial ?_
          | refine x_extract rfl rfl rfl rfl trivial ?_
          | refine x_nilCheck rfl rfl rfl trivial ?_
          | refine x_fieldAddr rfl rfl rfl rfl trivial ?_
          | refine x_skip trivial rfl rfl rfl ?_
          | refine x_indexAddr1 rfl rfl rfl (by assumption) (by omega) (by omega) rfl trivial ?_
          | refine x_indexAddr rfl rfl rfl (by assumption) (by omega) (by omega) rfl trivial ?_
          | refine x_nil ?_
          | refine cw_seq ?_
          | refine nw_seq ?_
          | refine nw_block ?_
          | refine cw_block ?_
          | refine cw_skip ?_
          | refine cw_region ?_
          | refine cw_exit rfl ?_
          | refine cw_true rfl ?_
          | refine cw_false rfl ?_)
        refine x_call rfl rfl rfl trivial (awake5 _) ?_
        rintro _ Hz ⟨rfl, hkz⟩
        refine ⟨trivial, ?_⟩
        repeat (first
          | refine x_move rfl rfl rfl trivial ?_
          | refine x_assign rfl rfl rfl trivial ?_
          | refine x_add rfl rfl rfl (wrap_i64 (by omega) (by omega)) rfl trivial ?_
          | refine x_sub_ rfl rfl rfl (wrap_i64 (by omega) (by omega)) rfl trivial ?_
          | refine x_sub_ rfl rfl rfl (wrap_u32 (by omega) (by omega)) rfl trivial ?_
          | refine x_add rfl rfl rfl (wrap_u32 (by omega) (by omega)) rfl trivial ?_
          | refine x_peqn rfl rfl rfl rfl trivial ?_
          | refine x_pnen rfl rfl rfl rfl trivial ?_
          | refine x_mul rfl rfl rfl (wrap_i64 (by omega) (by omega)) rfl trivial ?_
          | refine x_ibin rfl rfl rfl rfl rfl trivial ?_
          | refine x_neg_ rfl rfl (wrap_i64 (by omega) (by omega)) rfl trivial ?_
          | refine x_len rfl rfl (by assumption) rfl trivial ?_
          | refine x_pick_t rfl rfl rfl rfl trivial ?_
          | refine x_pick_f rfl rfl rfl rfl trivial ?_
          | refine x_not rfl rfl rfl trivial ?_
          | refine x_beq rfl rfl rfl rfl trivial ?_
          | refine x_bne rfl rfl rfl rfl trivial ?_
          | refine x_extract rfl rfl rfl rfl trivial ?_
          | refine x_nilCheck rfl rfl rfl trivial ?_
          | refine x_fieldAddr rfl rfl rfl rfl trivial ?_
          | refine x_skip trivial rfl rfl rfl ?_
          | refine x_indexAddr1 rfl rfl rfl (by assumption) (by omega) (by omega) rfl trivial ?_
          | refine x_indexAddr rfl rfl rfl (by assumption) (by omega) (by omega) rfl trivial ?_
          | refine x_nil ?_
          | refine cw_seq ?_
          | refine nw_seq ?_
          | refine nw_block ?_
          | refine cw_block ?_
          | refine cw_skip ?_
          | refine cw_region ?_
          | refine cw_exit rfl ?_
          | refine cw_true rfl ?_
          | refine cw_false rfl ?_)
        exact cw_ret1 rfl rfl ⟨rfl, (Keep.refl Non H).non_trans hkz⟩
      · exact absurd h hm
    · rcases hN2 with ⟨h, _⟩ | ⟨_, hk2, c, G, rfl, hQ, hg⟩
      · exact absurd hm h
      have hK12 : K.Off G := fun x hx => by
        by_cases e : G x = 0
        · exact e
        · have h1 := hg x e
          have h2 := hS.kin x hx
          omega
      have hs1 := hk1.size
      repeat (first
        | refine x_move rfl rfl rfl trivial ?_
        | refine x_assign rfl rfl rfl trivial ?_
        | refine x_add rfl rfl rfl (wrap_i64 (by omega) (by omega)) rfl trivial ?_
        | refine x_sub_ rfl rfl rfl (wrap_i64 (by omega) (by omega)) rfl trivial ?_
        | refine x_sub_ rfl rfl rfl (wrap_u32 (by omega) (by omega)) rfl trivial ?_
        | refine x_add rfl rfl rfl (wrap_u32 (by omega) (by omega)) rfl trivial ?_
        | refine x_peqn rfl rfl rfl rfl trivial ?_
        | refine x_pnen rfl rfl rfl rfl trivial ?_
        | refine x_mul rfl rfl rfl (wrap_i64 (by omega) (by omega)) rfl trivial ?_
        | refine x_ibin rfl rfl rfl rfl rfl trivial ?_
        | refine x_neg_ rfl rfl (wrap_i64 (by omega) (by omega)) rfl trivial ?_
        | refine x_len rfl rfl (by assumption) rfl trivial ?_
        | refine x_pick_t rfl rfl rfl rfl trivial ?_
        | refine x_pick_f rfl rfl rfl rfl trivial ?_
        | refine x_not rfl rfl rfl trivial ?_
        | refine x_beq rfl rfl rfl rfl trivial ?_
        | refine x_bne rfl rfl rfl rfl trivial ?_
        | refine x_extract rfl rfl rfl rfl trivial ?_
        | refine x_nilCheck rfl rfl rfl trivial ?_
        | refine x_fieldAddr rfl rfl rfl rfl trivial ?_
        | refine x_skip trivial rfl rfl rfl ?_
        | refine x_indexAddr1 rfl rfl rfl (by assumption) (by omega) (by omega) rfl trivial ?_
        | refine x_indexAddr rfl rfl rfl (by assumption) (by omega) (by omega) rfl trivial ?_
        | refine x_nil ?_
        | refine cw_seq ?_
        | refine nw_seq ?_
        | refine nw_block ?_
        | refine cw_block ?_
        | refine cw_skip ?_
        | refine cw_region ?_
        | refine cw_exit rfl ?_
        | refine cw_true rfl ?_
        | refine cw_false rfl ?_)
      refine cw_loop (fun s : Nat × Ar => [(0, .int .i64 most), (1, va), (5, ptr b 0), (6, ptr c 0), (7, .int .i64 s.1)])
        (fun s H' => s.1 ≤ acts.length ∧ s.2.Wf ∧ s.2.most = most ∧ s.2.cs.length ≤ s.1 ∧ s.2.back.length ≤ s.1 ∧ Keep Non H H' ∧ ∃ K G, Sa K H' b s.2 ∧ Ra G H' c s.2 ∧ K.Off G ∧ K.From H.size ∧ G.From H.size)
        (fun s => acts.length - s.1) (0, ⟨most, [], []⟩) (by repeat (first | exact True.intro | refine ⟨rfl, ?_⟩)) ⟨Nat.zero_le _, ⟨hm, by simp [liveA]; omega, by simp, by simp, by simp [takenA]⟩, rfl, Nat.le_refl _, Nat.le_refl _, hk1.non_trans hk2, K, G, hS.keepN hk2, hQ, hK12, hf, hg.mono hs1⟩ ?_
      rintro ⟨i, p⟩ H3 ⟨hi, hw, hpm, htx, hbk, hk3, K, G, hS, hQ, hKG, hf, hg⟩
      simp only at hi htx hbk hpm
      have hw : p.Wf := hw
      have hS : Sa K H3 b p := hS
      have hQ : Ra G H3 c p := hQ
      dsimp only
      repeat (first
        | refine x_move rfl rfl rfl trivial ?_
        | refine x_assign rfl rfl rfl trivial ?_
        | refine x_add rfl rfl rfl (wrap_i64 (by omega) (by omega)) rfl trivial ?_
        | refine x_sub_ rfl rfl rfl (wrap_i64 (by omega) (by omega)) rfl trivial ?_
        | refine x_sub_ rfl rfl rfl (wrap_u32 (by omega) (by omega)) rfl trivial ?_
        | refine x_add rfl rfl rfl (wrap_u32 (by omega) (by omega)) rfl trivial ?_
        | refine x_peqn rfl rfl rfl rfl trivial ?_
        | refine x_pnen rfl rfl rfl rfl trivial ?_
        | refine x_mul rfl rfl rfl (wrap_i64 (by omega) (by omega)) rfl trivial ?_
        | refine x_ibin rfl rfl rfl rfl rfl trivial ?_
        | refine x_neg_ rfl rfl (wrap_i64 (by omega) (by omega)) rfl trivial ?_
        | refine x_len rfl rfl (by assumption) rfl trivial ?_
        | refine x_pick_t rfl rfl rfl rfl trivial ?_
        | refine x_pick_f rfl rfl rfl rfl trivial ?_
        | refine x_not rfl rfl rfl trivial ?_
        | refine x_beq rfl rfl rfl rfl trivial ?_
        | refine x_bne rfl rfl rfl rfl trivial ?_
        | refine x_extract rfl rfl rfl rfl trivial ?_
        | refine x_nilCheck rfl rfl rfl trivial ?_
        | refine x_fieldAddr rfl rfl rfl rfl trivial ?_
        | refine x_skip trivial rfl rfl rfl ?_
        | refine x_indexAddr1 rfl rfl rfl (by assumption) (by omega) (by omega) rfl trivial ?_
        | refine x_indexAddr rfl rfl rfl (by assumption) (by omega) (by omega) rfl trivial ?_
        | refine x_nil ?_
        | refine cw_seq ?_
        | refine nw_seq ?_
        | refine nw_block ?_
        | refine cw_block ?_
        | refine cw_skip ?_
        | refine cw_region ?_
        | refine cw_exit rfl ?_
        | refine cw_true rfl ?_
        | refine cw_false rfl ?_)
      refine cw_cond rfl (fun hlt => ?_) (fun hlt => ?_) <;> (try simp at hlt)
      · obtain ⟨⟨dv, n, h, ws⟩, hy⟩ : ∃ y, acts[i]? = some y := ⟨_, List.getElem?_eq_getElem (by omega)⟩
        obtain ⟨x, hx, hc⟩ := hA.cels encAa_len hy
        obtain ⟨vW, eA, hh, hW⟩ := aaR_cells hx
        rw [eA] at hc
        simp only at hc hh hW
        have hc3 := hc.keep hk3 (fun _ h => h)
        have sW := hW.1
        have cW := sW.cap
        repeat (first
          | refine x_move rfl rfl rfl trivial ?_
          | refine x_assign rfl rfl rfl trivial ?_
          | refine x_add rfl rfl rfl (wrap_i64 (by omega) (by omega)) rfl trivial ?_
          | refine x_sub_ rfl rfl rfl (wrap_i64 (by omega) (by omega)) rfl trivial ?_
          | refine x_sub_ rfl rfl rfl (wrap_u32 (by omega) (by omega)) rfl trivial ?_
          | refine x_add rfl rfl rfl (wrap_u32 (by omega) (by omega)) rfl trivial ?_
          | refine x_peqn rfl rfl rfl rfl trivial ?_
          | refine x_pnen rfl rfl rfl rfl trivial ?_
          | refine x_mul rfl rfl rfl (wrap_i64 (by omega) (by omega)) rfl trivial ?_
          | refine x_ibin rfl rfl rfl rfl rfl trivial ?_
          | refine x_neg_ rfl rfl (wrap_i64 (by omega) (by omega)) rfl trivial ?_
          | refine x_len rfl rfl (by assumption) rfl trivial ?_
          | refine x_pick_t rfl rfl rfl rfl trivial ?_
          | refine x_pick_f rfl rfl rfl rfl trivial ?_
          | refine x_not rfl rfl rfl trivial ?_
          | refine x_beq rfl rfl rfl rfl trivial ?_
          | refine x_bne rfl rfl rfl rfl trivial ?_
          | refine x_extract rfl rfl rfl rfl trivial ?_
          | refine x_nilCheck rfl rfl rfl trivial ?_
          | refine x_fieldAddr rfl rfl rfl rfl trivial ?_
          | refine x_skip trivial rfl rfl rfl ?_
          | refine x_indexAddr1 rfl rfl rfl (by assumption) (by omega) (by omega) rfl trivial ?_
          | refine x_indexAddr rfl rfl rfl (by assumption) (by omega) (by omega) rfl trivial ?_
          | refine x_nil ?_
          | refine cw_seq ?_
          | refine nw_seq ?_
          | refine nw_block ?_
          | refine cw_block ?_
          | refine cw_skip ?_
          | refine cw_region ?_
          | refine cw_exit rfl ?_
          | refine cw_true rfl ?_
          | refine cw_false rfl ?_)
        refine x_loads rfl rfl rfl (hpmt hc3) rfl trivial ?_
        refine x_alloc rfl rfl trivial ?_
        intro H4 hn4
        refine ⟨trivial, ?_⟩
        refine x_stores rfl rfl rfl rfl (oc_cons rfl (oc_cons rfl (oc_cons rfl (oc_cons (isSl_oneC sW) oc_nil)))) hn4.blk (by simp) trivial ?_
        intro H5 hB5 hk5 hs5
        refine ⟨trivial, ?_⟩
        have hX5 : Blk H5 H3.size [.int .i64 dv, .int .i64 n, .int .u32 (h : Nat), vW] := hB5
        have k35 : Keep Non H3 H5 := keep_at hn4.keep hk5 (Nat.le_refl _)
        have hS5 := hS.keepN k35
        have hQ5 := hQ.keepN k35
        have k05 := hk3.non_trans k35
        have hW5 := hW.keepN k05
        have kL := hS.kin.off (Nat.le_refl H3.size)
        have gL := hQ.kin.off (Nat.le_refl H3.size)
        have hlt5 := hX5.lt
        have c50 : cel H5 H3.size 0 = some (.int .i64 dv) := by rw [hX5.cel]; rfl
        have c51 : cel H5 H3.size 1 = some (.int .i64 n) := by rw [hX5.cel]; rfl
        have c52 : cel H5 H3.size 2 = some (.int .u32 (h : Nat)) := by rw [hX5.cel]; rfl
        have c53 : cel H5 H3.size 3 = some vW := by rw [hX5.cel]; rfl
        repeat (first
          | refine x_move rfl rfl rfl trivial ?_
          | refine x_assign rfl rfl rfl trivial ?_
          | refine x_add rfl rfl rfl (wrap_i64 (by omega) (by omega)) rfl trivial ?_
          | refine x_sub_ rfl rfl rfl (wrap_i64 (by omega) (by omega)) rfl trivial ?_
          | refine x_sub_ rfl rfl rfl (wrap_u32 (by omega) (by omega)) rfl trivial ?_
          | refine x_add rfl rfl rfl (wrap_u32 (by omega) (by omega)) rfl trivial ?_
          | refine x_peqn rfl rfl rfl rfl trivial ?_
          | refine x_pnen rfl rfl rfl rfl trivial ?_
          | refine x_mul rfl rfl rfl (wrap_i64 (by omega) (by omega)) rfl trivial ?_
          | refine x_ibin rfl rfl rfl rfl rfl trivial ?_
          | refine x_neg_ rfl rfl (wrap_i64 (by omega) (by omega)) rfl trivial ?_
          | refine x_len rfl rfl (by assumption) rfl trivial ?_
          | refine x_pick_t rfl rfl rfl rfl trivial ?_
          | refine x_pick_f rfl rfl rfl rfl trivial ?_
          | refine x_not rfl rfl rfl trivial ?_
          | refine x_beq rfl rfl rfl rfl trivial ?_
          | refine x_bne rfl rfl rfl rfl trivial ?_
          | refine x_extract rfl rfl rfl rfl trivial ?_
          | refine x_nilCheck rfl rfl rfl trivial ?_
          | refine x_fieldAddr rfl rfl rfl rfl trivial ?_
          | refine x_skip trivial rfl rfl rfl ?_
          | refine x_indexAddr1 rfl rfl rfl (by assumption) (by omega) (by omega) rfl trivial ?_
          | refine x_indexAddr rfl rfl rfl (by assumption) (by omega) (by omega) rfl trivial ?_
          | refine x_nil ?_
          | refine cw_seq ?_
          | refine nw_seq ?_
          | refine nw_block ?_
          | refine cw_block ?_
          | refine cw_skip ?_
          | refine cw_region ?_
          | refine cw_exit rfl ?_
          | refine cw_true rfl ?_
          | refine cw_false rfl ?_)
        refine x_load rfl rfl (hpmt (c53)) rfl trivial ?_
        repeat (first
          | refine x_move rfl rfl rfl trivial ?_
          | refine x_assign rfl rfl rfl trivial ?_
          | refine x_add rfl rfl rfl (wrap_i64 (by omega) (by omega)) rfl trivial ?_
          | refine x_sub_ rfl rfl rfl (wrap_i64 (by omega) (by omega)) rfl trivial ?_
          | refine x_sub_ rfl rfl rfl (wrap_u32 (by omega) (by omega)) rfl trivial ?_
          | refine x_add rfl rfl rfl (wrap_u32 (by omega) (by omega)) rfl trivial ?_
          | refine x_peqn rfl rfl rfl rfl trivial ?_
          | refine x_pnen rfl rfl rfl rfl trivial ?_
          | refine x_mul rfl rfl rfl (wrap_i64 (by omega) (by omega)) rfl trivial ?_
          | refine x_ibin rfl rfl rfl rfl rfl trivial ?_
          | refine x_neg_ rfl rfl (wrap_i64 (by omega) (by omega)) rfl trivial ?_
          | refine x_len rfl rfl (by assumption) rfl trivial ?_
          | refine x_pick_t rfl rfl rfl rfl trivial ?_
          | refine x_pick_f rfl rfl rfl rfl trivial ?_
          | refine x_not rfl rfl rfl trivial ?_
          | refine x_beq rfl rfl rfl rfl trivial ?_
          | refine x_bne rfl rfl rfl rfl trivial ?_
          | refine x_extract rfl rfl rfl rfl trivial ?_
          | refine x_nilCheck rfl rfl rfl trivial ?_
          | refine x_fieldAddr rfl rfl rfl rfl trivial ?_
          | refine x_skip trivial rfl rfl rfl ?_
          | refine x_indexAddr1 rfl rfl rfl (by assumption) (by omega) (by omega) rfl trivial ?_
          | refine x_indexAddr rfl rfl rfl (by assumption) (by omega) (by omega) rfl trivial ?_
          | refine x_nil ?_
          | refine cw_seq ?_
          | refine nw_seq ?_
          | refine nw_block ?_
          | refine cw_block ?_
          | refine cw_skip ?_
          | refine cw_region ?_
          | refine cw_exit rfl ?_
          | refine cw_true rfl ?_
          | refine cw_false rfl ?_)
        refine cw_cond rfl (fun hlong => ?_) (fun hlong => ?_) <;> (try simp at hlong)
        · repeat (first
            | refine x_move rfl rfl rfl trivial ?_
            | refine x_assign rfl rfl rfl trivial ?_
            | refine x_add rfl rfl rfl (wrap_i64 (by omega) (by omega)) rfl trivial ?_
            | refine x_sub_ rfl rfl rfl (wrap_i64 (by omega) (by omega)) rfl trivial ?_
            | refine x_sub_ rfl rfl rfl (wrap_u32 (by omega) (by omega)) rfl trivial ?_
            | refine x_add rfl rfl rfl (wrap_u32 (by omega) (by omega)) rfl trivial ?_
            | refine x_peqn rfl rfl rfl rfl trivial ?_
            | refine x_pnen rfl rfl rfl rfl trivial ?_
            | refine x_mul rfl rfl rfl (wrap_i64 (by omega) (by omega)) rfl trivial ?_
            | refine x_ibin rfl rfl rfl rfl rfl trivial ?_
            | refine x_neg_ rfl rfl (wrap_i64 (by omega) (by omega)) rfl trivial ?_
            | refine x_len rfl rfl (by assumption) rfl trivial ?_
            | refine x_pick_t rfl rfl rfl rfl trivial ?_
            | refine x_pick_f rfl rfl rfl rfl trivial ?_
            | refine x_not rfl rfl rfl trivial ?_
            | refine x_beq rfl rfl rfl rfl trivial ?_
            | refine x_bne rfl rfl rfl rfl trivial ?_
            | refine x_extract rfl rfl rfl rfl trivial ?_
            | refine x_nilCheck rfl rfl rfl trivial ?_
            | refine x_fieldAddr rfl rfl rfl rfl trivial ?_
            | refine x_skip trivial rfl rfl rfl ?_
            | refine x_indexAddr1 rfl rfl rfl (by assumption) (by omega) (by omega) rfl trivial ?_
            | refine x_indexAddr rfl rfl rfl (by assumption) (by omega) (by omega) rfl trivial ?_
            | refine x_nil ?_
            | refine cw_seq ?_
            | refine nw_seq ?_
            | refine nw_block ?_
            | refine cw_block ?_
            | refine cw_skip ?_
            | refine cw_region ?_
            | refine cw_exit rfl ?_
            | refine cw_true rfl ?_
            | refine cw_false rfl ?_)
          refine x_call rfl rfl rfl trivial (awake5 _) ?_
          rintro _ Hz ⟨rfl, hkz⟩
          refine ⟨trivial, ?_⟩
          repeat (first
            | refine x_move rfl rfl rfl trivial ?_
            | refine x_assign rfl rfl rfl trivial ?_
            | refine x_add rfl rfl rfl (wrap_i64 (by omega) (by omega)) rfl trivial ?_
            | refine x_sub_ rfl rfl rfl (wrap_i64 (by omega) (by omega)) rfl trivial ?_
            | refine x_sub_ rfl rfl rfl (wrap_u32 (by omega) (by omega)) rfl trivial ?_
            | refine x_add rfl rfl rfl (wrap_u32 (by omega) (by omega)) rfl trivial ?_
            | refine x_peqn rfl rfl rfl rfl trivial ?_
            | refine x_pnen rfl rfl rfl rfl trivial ?_
            | refine x_mul rfl rfl rfl (wrap_i64 (by omega) (by omega)) rfl trivial ?_
            | refine x_ibin rfl rfl rfl rfl rfl trivial ?_
            | refine x_neg_ rfl rfl (wrap_i64 (by omega) (by omega)) rfl trivial ?_
            | refine x_len rfl rfl (by assumption) rfl trivial ?_
            | refine x_pick_t rfl rfl rfl rfl trivial ?_
            | refine x_pick_f rfl rfl rfl rfl trivial ?_
            | refine x_not rfl rfl rfl trivial ?_
            | refine x_beq rfl rfl rfl rfl trivial ?_
            | refine x_bne rfl rfl rfl rfl trivial ?_
            | refine x_extract rfl rfl rfl rfl trivial ?_
            | refine x_nilCheck rfl rfl rfl trivial ?_
            | refine x_fieldAddr rfl rfl rfl rfl trivial ?_
            | refine x_skip trivial rfl rfl rfl ?_
            | refine x_indexAddr1 rfl rfl rfl (by assumption) (by omega) (by omega) rfl trivial ?_
            | refine x_indexAddr rfl rfl rfl (by assumption) (by omega) (by omega) rfl trivial ?_
            | refine x_nil ?_
            | refine cw_seq ?_
            | refine nw_seq ?_
            | refine nw_block ?_
            | refine cw_block ?_
            | refine cw_skip ?_
            | refine cw_region ?_
            | refine cw_exit rfl ?_
            | refine cw_true rfl ?_
            | refine cw_false rfl ?_)
          exact cw_ret1 rfl rfl ⟨rfl, (k05).non_trans hkz⟩
        · repeat (first
            | refine x_move rfl rfl rfl trivial ?_
            | refine x_assign rfl rfl rfl trivial ?_
            | refine x_add rfl rfl rfl (wrap_i64 (by omega) (by omega)) rfl trivial ?_
            | refine x_sub_ rfl rfl rfl (wrap_i64 (by omega) (by omega)) rfl trivial ?_
            | refine x_sub_ rfl rfl rfl (wrap_u32 (by omega) (by omega)) rfl trivial ?_
            | refine x_add rfl rfl rfl (wrap_u32 (by omega) (by omega)) rfl trivial ?_
            | refine x_peqn rfl rfl rfl rfl trivial ?_
            | refine x_pnen rfl rfl rfl rfl trivial ?_
            | refine x_mul rfl rfl rfl (wrap_i64 (by omega) (by omega)) rfl trivial ?_
            | refine x_ibin rfl rfl rfl rfl rfl trivial ?_
            | refine x_neg_ rfl rfl (wrap_i64 (by omega) (by omega)) rfl trivial ?_
            | refine x_len rfl rfl (by assumption) rfl trivial ?_
            | refine x_pick_t rfl rfl rfl rfl trivial ?_
            | refine x_pick_f rfl rfl rfl rfl trivial ?_
            | refine x_not rfl rfl rfl trivial ?_
            | refine x_beq rfl rfl rfl rfl trivial ?_
            | refine x_bne rfl rfl rfl rfl trivial ?_
            | refine x_extract rfl rfl rfl rfl trivial ?_
            | refine x_nilCheck rfl rfl rfl trivial ?_
            | refine x_fieldAddr rfl rfl rfl rfl trivial ?_
            | refine x_skip trivial rfl rfl rfl ?_
            | refine x_indexAddr1 rfl rfl rfl (by assumption) (by omega) (by omega) rfl trivial ?_
            | refine x_indexAddr rfl rfl rfl (by assumption) (by omega) (by omega) rfl trivial ?_
            | refine x_nil ?_
            | refine cw_seq ?_
            | refine nw_seq ?_
            | refine nw_block ?_
            | refine cw_block ?_
            | refine cw_skip ?_
            | refine cw_region ?_
            | refine cw_exit rfl ?_
            | refine cw_true rfl ?_
            | refine cw_false rfl ?_)
          refine x_conv_int rfl rfl rfl trivial ?_
          repeat (first
            | refine x_move rfl rfl rfl trivial ?_
            | refine x_assign rfl rfl rfl trivial ?_
            | refine x_add rfl rfl rfl (wrap_i64 (by omega) (by omega)) rfl trivial ?_
            | refine x_sub_ rfl rfl rfl (wrap_i64 (by omega) (by omega)) rfl trivial ?_
            | refine x_sub_ rfl rfl rfl (wrap_u32 (by omega) (by omega)) rfl trivial ?_
            | refine x_add rfl rfl rfl (wrap_u32 (by omega) (by omega)) rfl trivial ?_
            | refine x_peqn rfl rfl rfl rfl trivial ?_
            | refine x_pnen rfl rfl rfl rfl trivial ?_
            | refine x_mul rfl rfl rfl (wrap_i64 (by omega) (by omega)) rfl trivial ?_
            | refine x_ibin rfl rfl rfl rfl rfl trivial ?_
            | refine x_neg_ rfl rfl (wrap_i64 (by omega) (by omega)) rfl trivial ?_
            | refine x_len rfl rfl (by assumption) rfl trivial ?_
            | refine x_pick_t rfl rfl rfl rfl trivial ?_
            | refine x_pick_f rfl rfl rfl rfl trivial ?_
            | refine x_not rfl rfl rfl trivial ?_
            | refine x_beq rfl rfl rfl rfl trivial ?_
            | refine x_bne rfl rfl rfl rfl trivial ?_
            | refine x_extract rfl rfl rfl rfl trivial ?_
            | refine x_nilCheck rfl rfl rfl trivial ?_
            | refine x_fieldAddr rfl rfl rfl rfl trivial ?_
            | refine x_skip trivial rfl rfl rfl ?_
            | refine x_indexAddr1 rfl rfl rfl (by assumption) (by omega) (by omega) rfl trivial ?_
            | refine x_indexAddr rfl rfl rfl (by assumption) (by omega) (by omega) rfl trivial ?_
            | refine x_nil ?_
            | refine cw_seq ?_
            | refine nw_seq ?_
            | refine nw_block ?_
            | refine cw_block ?_
            | refine cw_skip ?_
            | refine cw_region ?_
            | refine cw_exit rfl ?_
            | refine cw_true rfl ?_
            | refine cw_false rfl ?_)
          refine x_load rfl rfl (hpmt (c53)) rfl trivial ?_
          repeat (first
            | refine x_move rfl rfl rfl trivial ?_
            | refine x_assign rfl rfl rfl trivial ?_
            | refine x_add rfl rfl rfl (wrap_i64 (by omega) (by omega)) rfl trivial ?_
            | refine x_sub_ rfl rfl rfl (wrap_i64 (by omega) (by omega)) rfl trivial ?_
            | refine x_mul rfl rfl rfl (wrap_i64 (by omega) (by omega)) rfl trivial ?_
            | refine x_ibin rfl rfl rfl rfl rfl trivial ?_
            | refine x_neg_ rfl rfl (wrap_i64 (by omega) (by omega)) rfl trivial ?_
            | refine x_len rfl rfl (by assumption) rfl trivial ?_
            | refine x_pick_t rfl rfl rfl rfl trivial ?_
            | refine x_pick_f rfl rfl rfl rfl trivial ?_
            | refine x_not rfl rfl rfl trivial ?_
            | refine x_beq rfl rfl rfl rfl trivial ?_
            | refine x_bne rfl rfl rfl rfl trivial ?_
            | refine x_extract rfl rfl rfl rfl trivial ?_
            | refine x_nilCheck rfl rfl rfl trivial ?_
            | refine x_fieldAddr rfl rfl rfl rfl trivial ?_
            | refine x_skip trivial rfl rfl rfl ?_
            | refine x_indexAddr1 rfl rfl rfl (by assumption) (by omega) (by omega) rfl trivial ?_
            | refine x_indexAddr rfl rfl rfl (by assumption) (by omega) (by omega) rfl trivial ?_
            | refine x_nil ?_
            | refine cw_seq ?_
            | refine nw_seq ?_
            | refine nw_block ?_
            | refine cw_skip ?_
            | refine cw_exit rfl ?_
            | refine cw_true rfl ?_
            | refine cw_false rfl ?_)
          refine cw_cut (fun v9 : Int => [(0, .int .i64 most), (1, va), (5, ptr b 0), (6, ptr c 0), (7, .int .i64 i), (8, ptr H3.size 0), (9, .int .u64 v9)]) (fun _ H' => H5 = H') ?_ ?_
          · refine cw_cond rfl (fun hpos => ?_) (fun hpos => ?_) <;> (try simp at hpos)
            · obtain ⟨w0, hw0⟩ : ∃ w, ws[0]? = some w := ⟨_, List.getElem?_eq_getElem (by omega)⟩
              have hcw : cel H5 (sb vW) (so vW + 0) = some (.int .u64 w0) := by
                rw [hW5.2 0 (by rw [u64s_length]; omega), ← List.getElem?_eq_getElem]
                unfold u64s
                rw [List.getElem?_map, hw0]
                rfl
              repeat (first
                | refine x_move rfl rfl rfl trivial ?_
                | refine x_assign rfl rfl rfl trivial ?_
                | refine x_add rfl rfl rfl (wrap_i64 (by omega) (by omega)) rfl trivial ?_
                | refine x_sub_ rfl rfl rfl (wrap_i64 (by omega) (by omega)) rfl trivial ?_
                | refine x_sub_ rfl rfl rfl (wrap_u32 (by omega) (by omega)) rfl trivial ?_
                | refine x_add rfl rfl rfl (wrap_u32 (by omega) (by omega)) rfl trivial ?_
                | refine x_peqn rfl rfl rfl rfl trivial ?_
                | refine x_pnen rfl rfl rfl rfl trivial ?_
                | refine x_mul rfl rfl rfl (wrap_i64 (by omega) (by omega)) rfl trivial ?_
                | refine x_ibin rfl rfl rfl rfl rfl trivial ?_
                | refine x_neg_ rfl rfl (wrap_i64 (by omega) (by omega)) rfl trivial ?_
                | refine x_len rfl rfl (by assumption) rfl trivial ?_
                | refine x_pick_t rfl rfl rfl rfl trivial ?_
                | refine x_pick_f rfl rfl rfl rfl trivial ?_
                | refine x_not rfl rfl rfl trivial ?_
                | refine x_beq rfl rfl rfl rfl trivial ?_
                | refine x_bne rfl rfl rfl rfl trivial ?_
                | refine x_extract rfl rfl rfl rfl trivial ?_
                | refine x_nilCheck rfl rfl rfl trivial ?_
                | refine x_fieldAddr rfl rfl rfl rfl trivial ?_
                | refine x_skip trivial rfl rfl rfl ?_
                | refine x_indexAddr1 rfl rfl rfl (by assumption) (by omega) (by omega) rfl trivial ?_
                | refine x_indexAddr rfl rfl rfl (by assumption) (by omega) (by omega) rfl trivial ?_
                | refine x_nil ?_
                | refine cw_seq ?_
                | refine nw_seq ?_
                | refine nw_block ?_
                | refine cw_block ?_
                | refine cw_skip ?_
                | refine cw_region ?_
                | refine cw_exit rfl ?_
                | refine cw_true rfl ?_
                | refine cw_false rfl ?_)
              refine x_load rfl rfl (hpmt (c53)) rfl trivial ?_
              repeat (first
                | refine x_move rfl rfl rfl trivial ?_
                | refine x_assign rfl rfl rfl trivial ?_
                | refine x_add rfl rfl rfl (wrap_i64 (by omega) (by omega)) rfl trivial ?_
                | refine x_sub_ rfl rfl rfl (wrap_i64 (by omega) (by omega)) rfl trivial ?_
                | refine x_sub_ rfl rfl rfl (wrap_u32 (by omega) (by omega)) rfl trivial ?_
                | refine x_add rfl rfl rfl (wrap_u32 (by omega) (by omega)) rfl trivial ?_
                | refine x_peqn rfl rfl rfl rfl trivial ?_
                | refine x_pnen rfl rfl rfl rfl trivial ?_
                | refine x_mul rfl rfl rfl (wrap_i64 (by omega) (by omega)) rfl trivial ?_
                | refine x_ibin rfl rfl rfl rfl rfl trivial ?_
                | refine x_neg_ rfl rfl (wrap_i64 (by omega) (by omega)) rfl trivial ?_
                | refine x_len rfl rfl (by assumption) rfl trivial ?_
                | refine x_pick_t rfl rfl rfl rfl trivial ?_
                | refine x_pick_f rfl rfl rfl rfl trivial ?_
                | refine x_not rfl rfl rfl trivial ?_
                | refine x_beq rfl rfl rfl rfl trivial ?_
                | refine x_bne rfl rfl rfl rfl trivial ?_
                | refine x_extract rfl rfl rfl rfl trivial ?_
                | refine x_nilCheck rfl rfl rfl trivial ?_
                | refine x_fieldAddr rfl rfl rfl rfl trivial ?_
                | refine x_skip trivial rfl rfl rfl ?_
                | refine x_indexAddr1 rfl rfl rfl (by assumption) (by omega) (by omega) rfl trivial ?_
                | refine x_indexAddr rfl rfl rfl (by assumption) (by omega) (by omega) rfl trivial ?_
                | refine x_nil ?_
                | refine cw_seq ?_
                | refine nw_seq ?_
                | refine nw_block ?_
                | refine cw_block ?_
                | refine cw_skip ?_
                | refine cw_region ?_
                | refine cw_exit rfl ?_
                | refine cw_true rfl ?_
                | refine cw_false rfl ?_)
              refine x_load rfl rfl (hpmt (hcw)) rfl trivial ?_
              repeat (first
                | refine x_move rfl rfl rfl trivial ?_
                | refine x_assign rfl rfl rfl trivial ?_
                | refine x_add rfl rfl rfl (wrap_i64 (by omega) (by omega)) rfl trivial ?_
                | refine x_sub_ rfl rfl rfl (wrap_i64 (by omega) (by omega)) rfl trivial ?_
                | refine x_sub_ rfl rfl rfl (wrap_u32 (by omega) (by omega)) rfl trivial ?_
                | refine x_add rfl rfl rfl (wrap_u32 (by omega) (by omega)) rfl trivial ?_
                | refine x_peqn rfl rfl rfl rfl trivial ?_
                | refine x_pnen rfl rfl rfl rfl trivial ?_
                | refine x_mul rfl rfl rfl (wrap_i64 (by omega) (by omega)) rfl trivial ?_
                | refine x_ibin rfl rfl rfl rfl rfl trivial ?_
                | refine x_neg_ rfl rfl (wrap_i64 (by omega) (by omega)) rfl trivial ?_
                | refine x_len rfl rfl (by assumption) rfl trivial ?_
                | refine x_pick_t rfl rfl rfl rfl trivial ?_
                | refine x_pick_f rfl rfl rfl rfl trivial ?_
                | refine x_not rfl rfl rfl trivial ?_
                | refine x_beq rfl rfl rfl rfl trivial ?_
                | refine x_bne rfl rfl rfl rfl trivial ?_
                | refine x_extract rfl rfl rfl rfl trivial ?_
                | refine x_nilCheck rfl rfl rfl trivial ?_
                | refine x_fieldAddr rfl rfl rfl rfl trivial ?_
                | refine x_skip trivial rfl rfl rfl ?_
                | refine x_indexAddr1 rfl rfl rfl (by assumption) (by omega) (by omega) rfl trivial ?_
                | refine x_indexAddr rfl rfl rfl (by assumption) (by omega) (by omega) rfl trivial ?_
                | refine x_nil ?_
                | refine cw_seq ?_
                | refine nw_seq ?_
                | refine nw_block ?_
                | refine cw_block ?_
                | refine cw_skip ?_
                | refine cw_region ?_
                | refine cw_exit rfl ?_
                | refine cw_true rfl ?_
                | refine cw_false rfl ?_)
              exact nw_meet w0 (by repeat (first | exact True.intro | refine ⟨rfl, ?_⟩)) rfl
            · repeat (first
                | refine x_move rfl rfl rfl trivial ?_
                | refine x_assign rfl rfl rfl trivial ?_
                | refine x_add rfl rfl rfl (wrap_i64 (by omega) (by omega)) rfl trivial ?_
                | refine x_sub_ rfl rfl rfl (wrap_i64 (by omega) (by omega)) rfl trivial ?_
                | refine x_sub_ rfl rfl rfl (wrap_u32 (by omega) (by omega)) rfl trivial ?_
                | refine x_add rfl rfl rfl (wrap_u32 (by omega) (by omega)) rfl trivial ?_
                | refine x_peqn rfl rfl rfl rfl trivial ?_
                | refine x_pnen rfl rfl rfl rfl trivial ?_
                | refine x_mul rfl rfl rfl (wrap_i64 (by omega) (by omega)) rfl trivial ?_
                | refine x_ibin rfl rfl rfl rfl rfl trivial ?_
                | refine x_neg_ rfl rfl (wrap_i64 (by omega) (by omega)) rfl trivial ?_
                | refine x_len rfl rfl (by assumption) rfl trivial ?_
                | refine x_pick_t rfl rfl rfl rfl trivial ?_
                | refine x_pick_f rfl rfl rfl rfl trivial ?_
                | refine x_not rfl rfl rfl trivial ?_
                | refine x_beq rfl rfl rfl rfl trivial ?_
                | refine x_bne rfl rfl rfl rfl trivial ?_
                | refine x_extract rfl rfl rfl rfl trivial ?_
                | refine x_nilCheck rfl rfl rfl trivial ?_
                | refine x_fieldAddr rfl rfl rfl rfl trivial ?_
                | refine x_skip trivial rfl rfl rfl ?_
                | refine x_indexAddr1 rfl rfl rfl (by assumption) (by omega) (by omega) rfl trivial ?_
                | refine x_indexAddr rfl rfl rfl (by assumption) (by omega) (by omega) rfl trivial ?_
                | refine x_nil ?_
                | refine cw_seq ?_
                | refine nw_seq ?_
                | refine nw_block ?_
                | refine cw_block ?_
                | refine cw_skip ?_
                | refine cw_region ?_
                | refine cw_exit rfl ?_
                | refine cw_true rfl ?_
                | refine cw_false rfl ?_)
              exact nw_meet _ (by repeat (first | exact True.intro | refine ⟨rfl, ?_⟩)) rfl
          rintro v9 _ rfl
          repeat (first
            | refine x_move rfl rfl rfl trivial ?_
            | refine x_assign rfl rfl rfl trivial ?_
            | refine x_add rfl rfl rfl (wrap_i64 (by omega) (by omega)) rfl trivial ?_
            | refine x_sub_ rfl rfl rfl (wrap_i64 (by omega) (by omega)) rfl trivial ?_
            | refine x_sub_ rfl rfl rfl (wrap_u32 (by omega) (by omega)) rfl trivial ?_
            | refine x_add rfl rfl rfl (wrap_u32 (by omega) (by omega)) rfl trivial ?_
            | refine x_peqn rfl rfl rfl rfl trivial ?_
            | refine x_pnen rfl rfl rfl rfl trivial ?_
            | refine x_mul rfl rfl rfl (wrap_i64 (by omega) (by omega)) rfl trivial ?_
            | refine x_ibin rfl rfl rfl rfl rfl trivial ?_
            | refine x_neg_ rfl rfl (wrap_i64 (by omega) (by omega)) rfl trivial ?_
            | refine x_len rfl rfl (by assumption) rfl trivial ?_
            | refine x_pick_t rfl rfl rfl rfl trivial ?_
            | refine x_pick_f rfl rfl rfl rfl trivial ?_
            | refine x_not rfl rfl rfl trivial ?_
            | refine x_beq rfl rfl rfl rfl trivial ?_
            | refine x_bne rfl rfl rfl rfl trivial ?_
            | refine x_extract rfl rfl rfl rfl trivial ?_
            | refine x_nilCheck rfl rfl rfl trivial ?_
            | refine x_fieldAddr rfl rfl rfl rfl trivial ?_
            | refine x_skip trivial rfl rfl rfl ?_
            | refine x_indexAddr1 rfl rfl rfl (by assumption) (by omega) (by omega) rfl trivial ?_
            | refine x_indexAddr rfl rfl rfl (by assumption) (by omega) (by omega) rfl trivial ?_
            | refine x_nil ?_
            | refine cw_seq ?_
            | refine nw_seq ?_
            | refine nw_block ?_
            | refine cw_block ?_
            | refine cw_skip ?_
            | refine cw_region ?_
            | refine cw_exit rfl ?_
            | refine cw_true rfl ?_
            | refine cw_false rfl ?_)
          refine x_load rfl rfl (hpmt (c50)) rfl trivial ?_
          repeat (first
            | refine x_move rfl rfl rfl trivial ?_
            | refine x_assign rfl rfl rfl trivial ?_
            | refine x_add rfl rfl rfl (wrap_i64 (by omega) (by omega)) rfl trivial ?_
            | refine x_sub_ rfl rfl rfl (wrap_i64 (by omega) (by omega)) rfl trivial ?_
            | refine x_mul rfl rfl rfl (wrap_i64 (by omega) (by omega)) rfl trivial ?_
            | refine x_ibin rfl rfl rfl rfl rfl trivial ?_
            | refine x_neg_ rfl rfl (wrap_i64 (by omega) (by omega)) rfl trivial ?_
            | refine x_len rfl rfl (by assumption) rfl trivial ?_
            | refine x_pick_t rfl rfl rfl rfl trivial ?_
            | refine x_pick_f rfl rfl rfl rfl trivial ?_
            | refine x_not rfl rfl rfl trivial ?_
            | refine x_beq rfl rfl rfl rfl trivial ?_
            | refine x_bne rfl rfl rfl rfl trivial ?_
            | refine x_extract rfl rfl rfl rfl trivial ?_
            | refine x_nilCheck rfl rfl rfl trivial ?_
            | refine x_fieldAddr rfl rfl rfl rfl trivial ?_
            | refine x_skip trivial rfl rfl rfl ?_
            | refine x_indexAddr1 rfl rfl rfl (by assumption) (by omega) (by omega) rfl trivial ?_
            | refine x_indexAddr rfl rfl rfl (by assumption) (by omega) (by omega) rfl trivial ?_
            | refine x_nil ?_
            | refine cw_seq ?_
            | refine nw_seq ?_
            | refine nw_block ?_
            | refine cw_skip ?_
            | refine cw_exit rfl ?_
            | refine cw_true rfl ?_
            | refine cw_false rfl ?_)
          refine cw_cut (fun s : Ar => [(0, .int .i64 most), (1, va), (5, ptr b 0), (6, ptr c 0), (7, .int .i64 i), (8, ptr H3.size 0)])
            (fun s H' => s.Wf ∧ s.most = most ∧ s.cs.length ≤ i + 1 ∧ s.back.length ≤ i + 1 ∧ Keep Non H H' ∧ Blk H' H3.size [.int .i64 dv, .int .i64 n, .int .u32 (h : Nat), vW] ∧ H5.size ≤ H'.size ∧
              ∃ K G, Sa K H' b s ∧ Ra G H' c s ∧ K.Off G ∧ K.From H.size ∧ G.From H.size) ?_ ?_
          · repeat (first
              | refine x_move rfl rfl rfl trivial ?_
              | refine x_assign rfl rfl rfl trivial ?_
              | refine x_add rfl rfl rfl (wrap_i64 (by omega) (by omega)) rfl trivial ?_
              | refine x_sub_ rfl rfl rfl (wrap_i64 (by omega) (by omega)) rfl trivial ?_
              | refine x_sub_ rfl rfl rfl (wrap_u32 (by omega) (by omega)) rfl trivial ?_
              | refine x_add rfl rfl rfl (wrap_u32 (by omega) (by omega)) rfl trivial ?_
              | refine x_peqn rfl rfl rfl rfl trivial ?_
              | refine x_pnen rfl rfl rfl rfl trivial ?_
              | refine x_mul rfl rfl rfl (wrap_i64 (by omega) (by omega)) rfl trivial ?_
              | refine x_ibin rfl rfl rfl rfl rfl trivial ?_
              | refine x_neg_ rfl rfl (wrap_i64 (by omega) (by omega)) rfl trivial ?_
              | refine x_len rfl rfl (by assumption) rfl trivial ?_
              | refine x_pick_t rfl rfl rfl rfl trivial ?_
              | refine x_pick_f rfl rfl rfl rfl trivial ?_
              | refine x_not rfl rfl rfl trivial ?_
              | refine x_beq rfl rfl rfl rfl trivial ?_
              | refine x_bne rfl rfl rfl rfl trivial ?_
              | refine x_extract rfl rfl rfl rfl trivial ?_
              | refine x_nilCheck rfl rfl rfl trivial ?_
              | refine x_fieldAddr rfl rfl rfl rfl trivial ?_
              | refine x_skip trivial rfl rfl rfl ?_
              | refine x_indexAddr1 rfl rfl rfl (by assumption) (by omega) (by omega) rfl trivial ?_
              | refine x_indexAddr rfl rfl rfl (by assumption) (by omega) (by omega) rfl trivial ?_
              | refine x_nil ?_
              | refine cw_seq ?_
              | refine nw_seq ?_
              | refine nw_block ?_
              | refine cw_block ?_
              | refine cw_skip ?_
              | refine cw_region ?_
              | refine cw_exit rfl ?_
              | refine cw_true rfl ?_
              | refine cw_false rfl ?_)
            refine cw_cond rfl (fun hd0 => ?_) (fun hd0 => ?_) <;> (try simp at hd0)
            · repeat (first
                | refine x_move rfl rfl rfl trivial ?_
                | refine x_assign rfl rfl rfl trivial ?_
                | refine x_add rfl rfl rfl (wrap_i64 (by omega) (by omega)) rfl trivial ?_
                | refine x_sub_ rfl rfl rfl (wrap_i64 (by omega) (by omega)) rfl trivial ?_
                | refine x_sub_ rfl rfl rfl (wrap_u32 (by omega) (by omega)) rfl trivial ?_
                | refine x_add rfl rfl rfl (wrap_u32 (by omega) (by omega)) rfl trivial ?_
                | refine x_peqn rfl rfl rfl rfl trivial ?_
                | refine x_pnen rfl rfl rfl rfl trivial ?_
                | refine x_mul rfl rfl rfl (wrap_i64 (by omega) (by omega)) rfl trivial ?_
                | refine x_ibin rfl rfl rfl rfl rfl trivial ?_
                | refine x_neg_ rfl rfl (wrap_i64 (by omega) (by omega)) rfl trivial ?_
                | refine x_len rfl rfl (by assumption) rfl trivial ?_
                | refine x_pick_t rfl rfl rfl rfl trivial ?_
                | refine x_pick_f rfl rfl rfl rfl trivial ?_
                | refine x_not rfl rfl rfl trivial ?_
                | refine x_beq rfl rfl rfl rfl trivial ?_
                | refine x_bne rfl rfl rfl rfl trivial ?_
                | refine x_extract rfl rfl rfl rfl trivial ?_
                | refine x_nilCheck rfl rfl rfl trivial ?_
                | refine x_fieldAddr rfl rfl rfl rfl trivial ?_
                | refine x_skip trivial rfl rfl rfl ?_
                | refine x_indexAddr1 rfl rfl rfl (by assumption) (by omega) (by omega) rfl trivial ?_
                | refine x_indexAddr rfl rfl rfl (by assumption) (by omega) (by omega) rfl trivial ?_
                | refine x_nil ?_
                | refine cw_seq ?_
                | refine nw_seq ?_
                | refine nw_block ?_
                | refine cw_block ?_
                | refine cw_skip ?_
                | refine cw_region ?_
                | refine cw_exit rfl ?_
                | refine cw_true rfl ?_
                | refine cw_false rfl ?_)
              refine x_load rfl rfl (hpmt (c53)) rfl trivial ?_
              refine x_append (v := .slice none 0 0) (by rfl) (by rfl) (by rfl) rfl rfl rfl (Own.nil 1 H5) sW (cx := u64s ws) (by rw [u64s_length, Nat.mul_one]) hW5.2 (u64s_oneC _) (by omega) rfl trivial ?_
              intro v H6 hap
              refine ⟨trivial, ?_⟩
              have hk6 := hap.old (Fresh.nil H5) (Keep.refl _ _)
              have hf6 := hap.fresh (Fresh.nil H5) (Nat.le_refl _)
              have ho6 : Own 1 H6 v ws.length (u64s ws) := by simpa using hap.own
              have kv : 0 < sc v → K (sb v) = 0 := fun hc => hS5.kin.off (hf6 hc)
              have gv : 0 < sc v → G (sb v) = 0 := fun hc => hQ5.kin.off (hf6 hc)
              have hvlt : 0 < sc v → sb v < H6.size := fun hc => ho6.lt hc
              repeat (first
                | refine x_move rfl rfl rfl trivial ?_
                | refine x_assign rfl rfl rfl trivial ?_
                | refine x_add rfl rfl rfl (wrap_i64 (by omega) (by omega)) rfl trivial ?_
                | refine x_sub_ rfl rfl rfl (wrap_i64 (by omega) (by omega)) rfl trivial ?_
                | refine x_sub_ rfl rfl rfl (wrap_u32 (by omega) (by omega)) rfl trivial ?_
                | refine x_add rfl rfl rfl (wrap_u32 (by omega) (by omega)) rfl trivial ?_
                | refine x_peqn rfl rfl rfl rfl trivial ?_
                | refine x_pnen rfl rfl rfl rfl trivial ?_
                | refine x_mul rfl rfl rfl (wrap_i64 (by omega) (by omega)) rfl trivial ?_
                | refine x_ibin rfl rfl rfl rfl rfl trivial ?_
                | refine x_neg_ rfl rfl (wrap_i64 (by omega) (by omega)) rfl trivial ?_
                | refine x_len rfl rfl (by assumption) rfl trivial ?_
                | refine x_pick_t rfl rfl rfl rfl trivial ?_
                | refine x_pick_f rfl rfl rfl rfl trivial ?_
                | refine x_not rfl rfl rfl trivial ?_
                | refine x_beq rfl rfl rfl rfl trivial ?_
                | refine x_bne rfl rfl rfl rfl trivial ?_
                | refine x_extract rfl rfl rfl rfl trivial ?_
                | refine x_nilCheck rfl rfl rfl trivial ?_
                | refine x_fieldAddr rfl rfl rfl rfl trivial ?_
                | refine x_skip trivial rfl rfl rfl ?_
                | refine x_indexAddr1 rfl rfl rfl (by assumption) (by omega) (by omega) rfl trivial ?_
                | refine x_indexAddr rfl rfl rfl (by assumption) (by omega) (by omega) rfl trivial ?_
                | refine x_nil ?_
                | refine cw_seq ?_
                | refine nw_seq ?_
                | refine nw_block ?_
                | refine cw_block ?_
                | refine cw_skip ?_
                | refine cw_region ?_
                | refine cw_exit rfl ?_
                | refine cw_true rfl ?_
                | refine cw_false rfl ?_)
              refine x_call rfl rfl rfl trivial (arena_Take (hS5.keepN hk6) hw ⟨ho6.sl, ho6.cels⟩ (by omega) (by omega) (by omega)) ?_
              rintro _ H7 ⟨rfl, hk7, K7, hE7, hS7⟩
              refine ⟨trivial, ?_⟩
              have k07 := hf.keep (k05.non_trans hk6) hk7 (fun _ h => h)
              have ho7 := ho6.keep hk7 (fun hc e => e (kv hc))
              have hQ7 := (hQ5.keepN hk6).keep hk7 (hKG.keep hk7 (fun _ h => h))
              have hX7 := (hX5.keep hk6 (fun h => h)).keep hk7 (fun e => e kL)
              have kv7 : 0 < sc v → K7 (sb v) = 0 := fun hc => by rw [hE7.old _ (hvlt hc)]; exact kv hc
              have hf7 := hf.ext hE7 (k05.non_trans hk6).size
              have hKG7 := hKG.ext (hQ5.keepN hk6).kin hE7
              repeat (first
                | refine x_move rfl rfl rfl trivial ?_
                | refine x_assign rfl rfl rfl trivial ?_
                | refine x_add rfl rfl rfl (wrap_i64 (by omega) (by omega)) rfl trivial ?_
                | refine x_sub_ rfl rfl rfl (wrap_i64 (by omega) (by omega)) rfl trivial ?_
                | refine x_sub_ rfl rfl rfl (wrap_u32 (by omega) (by omega)) rfl trivial ?_
                | refine x_add rfl rfl rfl (wrap_u32 (by omega) (by omega)) rfl trivial ?_
                | refine x_peqn rfl rfl rfl rfl trivial ?_
                | refine x_pnen rfl rfl rfl rfl trivial ?_
                | refine x_mul rfl rfl rfl (wrap_i64 (by omega) (by omega)) rfl trivial ?_
                | refine x_ibin rfl rfl rfl rfl rfl trivial ?_
                | refine x_neg_ rfl rfl (wrap_i64 (by omega) (by omega)) rfl trivial ?_
                | refine x_len rfl rfl (by assumption) rfl trivial ?_
                | refine x_pick_t rfl rfl rfl rfl trivial ?_
                | refine x_pick_f rfl rfl rfl rfl trivial ?_
                | refine x_not rfl rfl rfl trivial ?_
                | refine x_beq rfl rfl rfl rfl trivial ?_
                | refine x_bne rfl rfl rfl rfl trivial ?_
                | refine x_extract rfl rfl rfl rfl trivial ?_
                | refine x_nilCheck rfl rfl rfl trivial ?_
                | refine x_fieldAddr rfl rfl rfl rfl trivial ?_
                | refine x_skip trivial rfl rfl rfl ?_
                | refine x_indexAddr1 rfl rfl rfl (by assumption) (by omega) (by omega) rfl trivial ?_
                | refine x_indexAddr rfl rfl rfl (by assumption) (by omega) (by omega) rfl trivial ?_
                | refine x_nil ?_
                | refine cw_seq ?_
                | refine nw_seq ?_
                | refine nw_block ?_
                | refine cw_block ?_
                | refine cw_skip ?_
                | refine cw_region ?_
                | refine cw_exit rfl ?_
                | refine cw_true rfl ?_
                | refine cw_false rfl ?_)
              refine x_call rfl rfl rfl trivial (law_OverWords ho7 (by omega)) ?_
              rintro _ H8 ⟨rfl, hk8⟩
              refine ⟨trivial, ?_⟩
              have hS8 := hS7.keep hk8 (fun x hx e => hx (by rw [e.1]; exact kv7 e.2))
              have hQ8 := hQ7.keep hk8 (fun x hx e => hx (by rw [e.1]; exact gv e.2))
              have hX8 := hX7.keep hk8 (fun e => by have := hf6 e.2; have := e.1; omega)
              have k08 : Keep Non H H8 := k07.old hk8 (fun x hx e => by have := hf6 e.2; have := e.1; have := k05.size; omega)
              have c83 : cel H8 H3.size 3 = some vW := by rw [hX8.cel]; rfl
              have hW8 := hW.keepN k08
              repeat (first
                | refine x_move rfl rfl rfl trivial ?_
                | refine x_assign rfl rfl rfl trivial ?_
                | refine x_add rfl rfl rfl (wrap_i64 (by omega) (by omega)) rfl trivial ?_
                | refine x_sub_ rfl rfl rfl (wrap_i64 (by omega) (by omega)) rfl trivial ?_
                | refine x_sub_ rfl rfl rfl (wrap_u32 (by omega) (by omega)) rfl trivial ?_
                | refine x_add rfl rfl rfl (wrap_u32 (by omega) (by omega)) rfl trivial ?_
                | refine x_peqn rfl rfl rfl rfl trivial ?_
                | refine x_pnen rfl rfl rfl rfl trivial ?_
                | refine x_mul rfl rfl rfl (wrap_i64 (by omega) (by omega)) rfl trivial ?_
                | refine x_ibin rfl rfl rfl rfl rfl trivial ?_
                | refine x_neg_ rfl rfl (wrap_i64 (by omega) (by omega)) rfl trivial ?_
                | refine x_len rfl rfl (by assumption) rfl trivial ?_
                | refine x_pick_t rfl rfl rfl rfl trivial ?_
                | refine x_pick_f rfl rfl rfl rfl trivial ?_
                | refine x_not rfl rfl rfl trivial ?_
                | refine x_beq rfl rfl rfl rfl trivial ?_
                | refine x_bne rfl rfl rfl rfl trivial ?_
                | refine x_extract rfl rfl rfl rfl trivial ?_
                | refine x_nilCheck rfl rfl rfl trivial ?_
                | refine x_fieldAddr rfl rfl rfl rfl trivial ?_
                | refine x_skip trivial rfl rfl rfl ?_
                | refine x_indexAddr1 rfl rfl rfl (by assumption) (by omega) (by omega) rfl trivial ?_
                | refine x_indexAddr rfl rfl rfl (by assumption) (by omega) (by omega) rfl trivial ?_
                | refine x_nil ?_
                | refine cw_seq ?_
                | refine nw_seq ?_
                | refine nw_block ?_
                | refine cw_block ?_
                | refine cw_skip ?_
                | refine cw_region ?_
                | refine cw_exit rfl ?_
                | refine cw_true rfl ?_
                | refine cw_false rfl ?_)
              refine x_load rfl rfl (hpmt (c83)) rfl trivial ?_
              refine x_call rfl rfl rfl trivial (ref5_Take hQ8 hw hW8 (by omega) (by omega) (by omega)) ?_
              rintro _ H9 ⟨rfl, hk9, G9, hE9, hQ9⟩
              refine ⟨trivial, ?_⟩
              have hS9 := hS8.keep hk9 (hKG7.symm.keep hk9 (fun _ h => h))
              have hX9 := hX8.keep hk9 (fun e => e gL)
              have k09 := hg.keep k08 hk9 (fun _ h => h)
              obtain ⟨l1, l2, l3⟩ := takeA_len p ws
              repeat (first
                | refine x_move rfl rfl rfl trivial ?_
                | refine x_assign rfl rfl rfl trivial ?_
                | refine x_add rfl rfl rfl (wrap_i64 (by omega) (by omega)) rfl trivial ?_
                | refine x_sub_ rfl rfl rfl (wrap_i64 (by omega) (by omega)) rfl trivial ?_
                | refine x_sub_ rfl rfl rfl (wrap_u32 (by omega) (by omega)) rfl trivial ?_
                | refine x_add rfl rfl rfl (wrap_u32 (by omega) (by omega)) rfl trivial ?_
                | refine x_peqn rfl rfl rfl rfl trivial ?_
                | refine x_pnen rfl rfl rfl rfl trivial ?_
                | refine x_mul rfl rfl rfl (wrap_i64 (by omega) (by omega)) rfl trivial ?_
                | refine x_ibin rfl rfl rfl rfl rfl trivial ?_
                | refine x_neg_ rfl rfl (wrap_i64 (by omega) (by omega)) rfl trivial ?_
                | refine x_len rfl rfl (by assumption) rfl trivial ?_
                | refine x_pick_t rfl rfl rfl rfl trivial ?_
                | refine x_pick_f rfl rfl rfl rfl trivial ?_
                | refine x_not rfl rfl rfl trivial ?_
                | refine x_beq rfl rfl rfl rfl trivial ?_
                | refine x_bne rfl rfl rfl rfl trivial ?_
                | refine x_extract rfl rfl rfl rfl trivial ?_
                | refine x_nilCheck rfl rfl rfl trivial ?_
                | refine x_fieldAddr rfl rfl rfl rfl trivial ?_
                | refine x_skip trivial rfl rfl rfl ?_
                | refine x_indexAddr1 rfl rfl rfl (by assumption) (by omega) (by omega) rfl trivial ?_
                | refine x_indexAddr rfl rfl rfl (by assumption) (by omega) (by omega) rfl trivial ?_
                | refine x_nil ?_
                | refine cw_seq ?_
                | refine nw_seq ?_
                | refine nw_block ?_
                | refine cw_block ?_
                | refine cw_skip ?_
                | refine cw_region ?_
                | refine cw_exit rfl ?_
                | refine cw_true rfl ?_
                | refine cw_false rfl ?_)
              refine x_false 92 rfl (by simp) ?_
              repeat (first
                | refine x_move rfl rfl rfl trivial ?_
                | refine x_assign rfl rfl rfl trivial ?_
                | refine x_add rfl rfl rfl (wrap_i64 (by omega) (by omega)) rfl trivial ?_
                | refine x_sub_ rfl rfl rfl (wrap_i64 (by omega) (by omega)) rfl trivial ?_
                | refine x_sub_ rfl rfl rfl (wrap_u32 (by omega) (by omega)) rfl trivial ?_
                | refine x_add rfl rfl rfl (wrap_u32 (by omega) (by omega)) rfl trivial ?_
                | refine x_peqn rfl rfl rfl rfl trivial ?_
                | refine x_pnen rfl rfl rfl rfl trivial ?_
                | refine x_mul rfl rfl rfl (wrap_i64 (by omega) (by omega)) rfl trivial ?_
                | refine x_ibin rfl rfl rfl rfl rfl trivial ?_
                | refine x_neg_ rfl rfl (wrap_i64 (by omega) (by omega)) rfl trivial ?_
                | refine x_len rfl rfl (by assumption) rfl trivial ?_
                | refine x_pick_t rfl rfl rfl rfl trivial ?_
                | refine x_pick_f rfl rfl rfl rfl trivial ?_
                | refine x_not rfl rfl rfl trivial ?_
                | refine x_beq rfl rfl rfl rfl trivial ?_
                | refine x_bne rfl rfl rfl rfl trivial ?_
                | refine x_extract rfl rfl rfl rfl trivial ?_
                | refine x_nilCheck rfl rfl rfl trivial ?_
                | refine x_fieldAddr rfl rfl rfl rfl trivial ?_
                | refine x_skip trivial rfl rfl rfl ?_
                | refine x_indexAddr1 rfl rfl rfl (by assumption) (by omega) (by omega) rfl trivial ?_
                | refine x_indexAddr rfl rfl rfl (by assumption) (by omega) (by omega) rfl trivial ?_
                | refine x_nil ?_
                | refine cw_seq ?_
                | refine nw_seq ?_
                | refine nw_block ?_
                | refine cw_block ?_
                | refine cw_skip ?_
                | refine cw_region ?_
                | refine cw_exit rfl ?_
                | refine cw_true rfl ?_
                | refine cw_false rfl ?_)
              refine cw_cond rfl (fun h => absurd h (by simp)) (fun _ => ?_)
              repeat (first
                | refine x_move rfl rfl rfl trivial ?_
                | refine x_assign rfl rfl rfl trivial ?_
                | refine x_add rfl rfl rfl (wrap_i64 (by omega) (by omega)) rfl trivial ?_
                | refine x_sub_ rfl rfl rfl (wrap_i64 (by omega) (by omega)) rfl trivial ?_
                | refine x_sub_ rfl rfl rfl (wrap_u32 (by omega) (by omega)) rfl trivial ?_
                | refine x_add rfl rfl rfl (wrap_u32 (by omega) (by omega)) rfl trivial ?_
                | refine x_peqn rfl rfl rfl rfl trivial ?_
                | refine x_pnen rfl rfl rfl rfl trivial ?_
                | refine x_mul rfl rfl rfl (wrap_i64 (by omega) (by omega)) rfl trivial ?_
                | refine x_ibin rfl rfl rfl rfl rfl trivial ?_
                | refine x_neg_ rfl rfl (wrap_i64 (by omega) (by omega)) rfl trivial ?_
                | refine x_len rfl rfl (by assumption) rfl trivial ?_
                | refine x_pick_t rfl rfl rfl rfl trivial ?_
                | refine x_pick_f rfl rfl rfl rfl trivial ?_
                | refine x_not rfl rfl rfl trivial ?_
                | refine x_beq rfl rfl rfl rfl trivial ?_
                | refine x_bne rfl rfl rfl rfl trivial ?_
                | refine x_extract rfl rfl rfl rfl trivial ?_
                | refine x_nilCheck rfl rfl rfl trivial ?_
                | refine x_fieldAddr rfl rfl rfl rfl trivial ?_
                | refine x_skip trivial rfl rfl rfl ?_
                | refine x_indexAddr1 rfl rfl rfl (by assumption) (by omega) (by omega) rfl trivial ?_
                | refine x_indexAddr rfl rfl rfl (by assumption) (by omega) (by omega) rfl trivial ?_
                | refine x_nil ?_
                | refine cw_seq ?_
                | refine nw_seq ?_
                | refine nw_block ?_
                | refine cw_block ?_
                | refine cw_skip ?_
                | refine cw_region ?_
                | refine cw_exit rfl ?_
                | refine cw_true rfl ?_
                | refine cw_false rfl ?_)
              refine nw_meet (takeA p ws).2.2 (by repeat (first | exact True.intro | refine ⟨rfl, ?_⟩)) ⟨takeA_wf hw ws, l3.trans hpm, by omega, by omega, k09, hX9, ?_, K7, G9, hS9, hQ9, (hKG7.symm.ext hS8.kin hE9).symm, hf7, hg.ext hE9 k08.size⟩
              have := hk6.size
              have := hk7.size
              have := hk8.size
              have := hk9.size
              omega
            · repeat (first
                | refine x_move rfl rfl rfl trivial ?_
                | refine x_assign rfl rfl rfl trivial ?_
                | refine x_add rfl rfl rfl (wrap_i64 (by omega) (by omega)) rfl trivial ?_
                | refine x_sub_ rfl rfl rfl (wrap_i64 (by omega) (by omega)) rfl trivial ?_
                | refine x_sub_ rfl rfl rfl (wrap_u32 (by omega) (by omega)) rfl trivial ?_
                | refine x_add rfl rfl rfl (wrap_u32 (by omega) (by omega)) rfl trivial ?_
                | refine x_peqn rfl rfl rfl rfl trivial ?_
                | refine x_pnen rfl rfl rfl rfl trivial ?_
                | refine x_mul rfl rfl rfl (wrap_i64 (by omega) (by omega)) rfl trivial ?_
                | refine x_ibin rfl rfl rfl rfl rfl trivial ?_
                | refine x_neg_ rfl rfl (wrap_i64 (by omega) (by omega)) rfl trivial ?_
                | refine x_len rfl rfl (by assumption) rfl trivial ?_
                | refine x_pick_t rfl rfl rfl rfl trivial ?_
                | refine x_pick_f rfl rfl rfl rfl trivial ?_
                | refine x_not rfl rfl rfl trivial ?_
                | refine x_beq rfl rfl rfl rfl trivial ?_
                | refine x_bne rfl rfl rfl rfl trivial ?_
                | refine x_extract rfl rfl rfl rfl trivial ?_
                | refine x_nilCheck rfl rfl rfl trivial ?_
                | refine x_fieldAddr rfl rfl rfl rfl trivial ?_
                | refine x_skip trivial rfl rfl rfl ?_
                | refine x_indexAddr1 rfl rfl rfl (by assumption) (by omega) (by omega) rfl trivial ?_
                | refine x_indexAddr rfl rfl rfl (by assumption) (by omega) (by omega) rfl trivial ?_
                | refine x_nil ?_
                | refine cw_seq ?_
                | refine nw_seq ?_
                | refine nw_block ?_
                | refine cw_block ?_
                | refine cw_skip ?_
                | refine cw_region ?_
                | refine cw_exit rfl ?_
                | refine cw_true rfl ?_
                | refine cw_false rfl ?_)
              refine cw_cond rfl (fun hd1 => ?_) (fun hd1 => ?_) <;> (try simp at hd1)
              · repeat (first
                  | refine x_move rfl rfl rfl trivial ?_
                  | refine x_assign rfl rfl rfl trivial ?_
                  | refine x_add rfl rfl rfl (wrap_i64 (by omega) (by omega)) rfl trivial ?_
                  | refine x_sub_ rfl rfl rfl (wrap_i64 (by omega) (by omega)) rfl trivial ?_
                  | refine x_sub_ rfl rfl rfl (wrap_u32 (by omega) (by omega)) rfl trivial ?_
                  | refine x_add rfl rfl rfl (wrap_u32 (by omega) (by omega)) rfl trivial ?_
                  | refine x_peqn rfl rfl rfl rfl trivial ?_
                  | refine x_pnen rfl rfl rfl rfl trivial ?_
                  | refine x_mul rfl rfl rfl (wrap_i64 (by omega) (by omega)) rfl trivial ?_
                  | refine x_ibin rfl rfl rfl rfl rfl trivial ?_
                  | refine x_neg_ rfl rfl (wrap_i64 (by omega) (by omega)) rfl trivial ?_
                  | refine x_len rfl rfl (by assumption) rfl trivial ?_
                  | refine x_pick_t rfl rfl rfl rfl trivial ?_
                  | refine x_pick_f rfl rfl rfl rfl trivial ?_
                  | refine x_not rfl rfl rfl trivial ?_
                  | refine x_beq rfl rfl rfl rfl trivial ?_
                  | refine x_bne rfl rfl rfl rfl trivial ?_
                  | refine x_extract rfl rfl rfl rfl trivial ?_
                  | refine x_nilCheck rfl rfl rfl trivial ?_
                  | refine x_fieldAddr rfl rfl rfl rfl trivial ?_
                  | refine x_skip trivial rfl rfl rfl ?_
                  | refine x_indexAddr1 rfl rfl rfl (by assumption) (by omega) (by omega) rfl trivial ?_
                  | refine x_indexAddr rfl rfl rfl (by assumption) (by omega) (by omega) rfl trivial ?_
                  | refine x_nil ?_
                  | refine cw_seq ?_
                  | refine nw_seq ?_
                  | refine nw_block ?_
                  | refine cw_block ?_
                  | refine cw_skip ?_
                  | refine cw_region ?_
                  | refine cw_exit rfl ?_
                  | refine cw_true rfl ?_
                  | refine cw_false rfl ?_)
                have hr5 := Keep.refl (fun x => K x ≠ 0 ∨ G x ≠ 0 ∨ H5.size ≤ x) H5
                have nL : ¬ (K H3.size ≠ 0 ∨ G H3.size ≠ 0 ∨ H5.size ≤ H3.size) := fun e => e.elim (fun h => h kL) (fun h => h.elim (fun h => h gL) (fun h => by omega))
                refine cw_held (fun _ => Keep (fun x => K x ≠ 0 ∨ G x ≠ 0 ∨ H5.size ≤ x) H5) ⟨[3, 7], [(2, 0), (6, 0)]⟩ (.op 0 (.op 1 (.op 2 (.op 4 (.op 5 (.op 6 (.op 3 (.op 7 (.op 8 (.nil)))))))))) panicOk_body mixed (by kernel_rfl) ?_
                repeat (first
                  | refine x_move rfl rfl rfl (okq_reg rfl rfl) ?_
                  | refine x_assign rfl rfl rfl (okq_reg rfl rfl) ?_
                  | refine x_add rfl rfl rfl (wrap_i64 (by omega) (by omega)) rfl (okq_reg rfl rfl) ?_
                  | refine x_sub_ rfl rfl rfl (wrap_i64 (by omega) (by omega)) rfl (okq_reg rfl rfl) ?_
                  | refine x_sub_ rfl rfl rfl (wrap_u32 (by omega) (by omega)) rfl (okq_reg rfl rfl) ?_
                  | refine x_mul rfl rfl rfl (wrap_i64 (by omega) (by omega)) rfl (okq_reg rfl rfl) ?_
                  | refine x_ibin rfl rfl rfl rfl rfl (okq_reg rfl rfl) ?_
                  | refine x_len rfl rfl (by assumption) rfl (okq_reg rfl rfl) ?_
                  | refine x_pick_t rfl rfl rfl rfl (okq_reg rfl rfl) ?_
                  | refine x_pick_f rfl rfl rfl rfl (okq_reg rfl rfl) ?_
                  | refine x_not rfl rfl rfl (okq_reg rfl rfl) ?_
                  | refine x_extract rfl rfl rfl rfl (okq_reg rfl rfl) ?_
                  | refine x_nilCheck rfl rfl rfl (okq_reg rfl rfl) ?_
                  | refine x_fieldAddr rfl rfl rfl rfl (okq_reg rfl rfl) ?_
                  | refine x_skip (okq_reg rfl rfl) rfl rfl rfl ?_
                  | refine x_indexAddr1 rfl rfl rfl (by assumption) (by omega) (by omega) rfl (okq_reg rfl rfl) ?_
                  | refine x_indexAddr rfl rfl rfl (by assumption) (by omega) (by omega) rfl (okq_reg rfl rfl) ?_
                  | refine x_nil ?_
                  | refine cw_seq ?_
                  | refine nw_seq ?_
                  | refine nw_block ?_
                  | refine cw_block ?_
                  | refine cw_skip ?_
                  | refine cw_region ?_
                  | refine cw_exit rfl ?_
                  | refine cw_true rfl ?_
                  | refine cw_false rfl ?_)
                refine x_load rfl rfl (hpmk rfl (fun _ hk => hk.cel c52 nL)) rfl (okq_load rfl rfl (by assumption)) ?_
                repeat (first
                  | refine x_move rfl rfl rfl (okq_reg rfl rfl) ?_
                  | refine x_assign rfl rfl rfl (okq_reg rfl rfl) ?_
                  | refine x_add rfl rfl rfl (wrap_i64 (by omega) (by omega)) rfl (okq_reg rfl rfl) ?_
                  | refine x_sub_ rfl rfl rfl (wrap_i64 (by omega) (by omega)) rfl (okq_reg rfl rfl) ?_
                  | refine x_sub_ rfl rfl rfl (wrap_u32 (by omega) (by omega)) rfl (okq_reg rfl rfl) ?_
                  | refine x_mul rfl rfl rfl (wrap_i64 (by omega) (by omega)) rfl (okq_reg rfl rfl) ?_
                  | refine x_ibin rfl rfl rfl rfl rfl (okq_reg rfl rfl) ?_
                  | refine x_len rfl rfl (by assumption) rfl (okq_reg rfl rfl) ?_
                  | refine x_pick_t rfl rfl rfl rfl (okq_reg rfl rfl) ?_
                  | refine x_pick_f rfl rfl rfl rfl (okq_reg rfl rfl) ?_
                  | refine x_not rfl rfl rfl (okq_reg rfl rfl) ?_
                  | refine x_extract rfl rfl rfl rfl (okq_reg rfl rfl) ?_
                  | refine x_nilCheck rfl rfl rfl (okq_reg rfl rfl) ?_
                  | refine x_fieldAddr rfl rfl rfl rfl (okq_reg rfl rfl) ?_
                  | refine x_skip (okq_reg rfl rfl) rfl rfl rfl ?_
                  | refine x_indexAddr1 rfl rfl rfl (by assumption) (by omega) (by omega) rfl (okq_reg rfl rfl) ?_
                  | refine x_indexAddr rfl rfl rfl (by assumption) (by omega) (by omega) rfl (okq_reg rfl rfl) ?_
                  | refine x_nil ?_
                  | refine cw_seq ?_
                  | refine nw_seq ?_
                  | refine nw_block ?_
                  | refine cw_block ?_
                  | refine cw_skip ?_
                  | refine cw_region ?_
                  | refine cw_exit rfl ?_
                  | refine cw_true rfl ?_
                  | refine cw_false rfl ?_)
                refine x_load rfl rfl (hpmk rfl (fun _ hk => hk.cel c52 nL)) rfl (okq_load rfl rfl (by assumption)) ?_
                repeat (first
                  | refine x_move rfl rfl rfl (okq_reg rfl rfl) ?_
                  | refine x_assign rfl rfl rfl (okq_reg rfl rfl) ?_
                  | refine x_add rfl rfl rfl (wrap_i64 (by omega) (by omega)) rfl (okq_reg rfl rfl) ?_
                  | refine x_sub_ rfl rfl rfl (wrap_i64 (by omega) (by omega)) rfl (okq_reg rfl rfl) ?_
                  | refine x_sub_ rfl rfl rfl (wrap_u32 (by omega) (by omega)) rfl (okq_reg rfl rfl) ?_
                  | refine x_mul rfl rfl rfl (wrap_i64 (by omega) (by omega)) rfl (okq_reg rfl rfl) ?_
                  | refine x_ibin rfl rfl rfl rfl rfl (okq_reg rfl rfl) ?_
                  | refine x_len rfl rfl (by assumption) rfl (okq_reg rfl rfl) ?_
                  | refine x_pick_t rfl rfl rfl rfl (okq_reg rfl rfl) ?_
                  | refine x_pick_f rfl rfl rfl rfl (okq_reg rfl rfl) ?_
                  | refine x_not rfl rfl rfl (okq_reg rfl rfl) ?_
                  | refine x_extract rfl rfl rfl rfl (okq_reg rfl rfl) ?_
                  | refine x_nilCheck rfl rfl rfl (okq_reg rfl rfl) ?_
                  | refine x_fieldAddr rfl rfl rfl rfl (okq_reg rfl rfl) ?_
                  | refine x_skip (okq_reg rfl rfl) rfl rfl rfl ?_
                  | refine x_indexAddr1 rfl rfl rfl (by assumption) (by omega) (by omega) rfl (okq_reg rfl rfl) ?_
                  | refine x_indexAddr rfl rfl rfl (by assumption) (by omega) (by omega) rfl (okq_reg rfl rfl) ?_
                  | refine x_nil ?_
                  | refine cw_seq ?_
                  | refine nw_seq ?_
                  | refine nw_block ?_
                  | refine cw_block ?_
                  | refine cw_skip ?_
                  | refine cw_region ?_
                  | refine cw_exit rfl ?_
                  | refine cw_true rfl ?_
                  | refine cw_false rfl ?_)
                refine x_call rfl rfl rfl ⟨rfl, rfl⟩ (arena_Give hS5 hh (by omega) (by omega)) ?_
                rintro _ H6 ⟨rfl, hk6, K6, hE6, hS6⟩
                refine ⟨okm_keep hk6 (fun x _ e => .inl e), ?_⟩
                have hQ6 := hQ5.keep hk6 (hKG.keep hk6 (fun _ h => h))
                have hX6 := hX5.keep hk6 (fun e => e kL)
                have k06 := hf.keep k05 hk6 (fun _ h => h)
                have hKG6 := hKG.ext hQ5.kin hE6
                repeat (first
                  | refine x_move rfl rfl rfl (okq_reg rfl rfl) ?_
                  | refine x_assign rfl rfl rfl (okq_reg rfl rfl) ?_
                  | refine x_add rfl rfl rfl (wrap_i64 (by omega) (by omega)) rfl (okq_reg rfl rfl) ?_
                  | refine x_sub_ rfl rfl rfl (wrap_i64 (by omega) (by omega)) rfl (okq_reg rfl rfl) ?_
                  | refine x_sub_ rfl rfl rfl (wrap_u32 (by omega) (by omega)) rfl (okq_reg rfl rfl) ?_
                  | refine x_mul rfl rfl rfl (wrap_i64 (by omega) (by omega)) rfl (okq_reg rfl rfl) ?_
                  | refine x_ibin rfl rfl rfl rfl rfl (okq_reg rfl rfl) ?_
                  | refine x_len rfl rfl (by assumption) rfl (okq_reg rfl rfl) ?_
                  | refine x_pick_t rfl rfl rfl rfl (okq_reg rfl rfl) ?_
                  | refine x_pick_f rfl rfl rfl rfl (okq_reg rfl rfl) ?_
                  | refine x_not rfl rfl rfl (okq_reg rfl rfl) ?_
                  | refine x_extract rfl rfl rfl rfl (okq_reg rfl rfl) ?_
                  | refine x_nilCheck rfl rfl rfl (okq_reg rfl rfl) ?_
                  | refine x_fieldAddr rfl rfl rfl rfl (okq_reg rfl rfl) ?_
                  | refine x_skip (okq_reg rfl rfl) rfl rfl rfl ?_
                  | refine x_indexAddr1 rfl rfl rfl (by assumption) (by omega) (by omega) rfl (okq_reg rfl rfl) ?_
                  | refine x_indexAddr rfl rfl rfl (by assumption) (by omega) (by omega) rfl (okq_reg rfl rfl) ?_
                  | refine x_nil ?_
                  | refine cw_seq ?_
                  | refine nw_seq ?_
                  | refine nw_block ?_
                  | refine cw_block ?_
                  | refine cw_skip ?_
                  | refine cw_region ?_
                  | refine cw_exit rfl ?_
                  | refine cw_true rfl ?_
                  | refine cw_false rfl ?_)
                refine x_call rfl rfl rfl ⟨rfl, rfl⟩ (ref5_Give hQ6 hh (by omega) (by omega)) ?_
                rintro _ H7 ⟨rfl, hk7, G7, hE7, hQ7⟩
                refine ⟨okm_keep hk7 (fun x _ e => .inr (.inl e)), ?_⟩
                have hS7 := hS6.keep hk7 (hKG6.symm.keep hk7 (fun _ h => h))
                have hX7 := hX6.keep hk7 (fun e => e gL)
                have k07 := hg.keep k06 hk7 (fun _ h => h)
                obtain ⟨l1, l2, l3⟩ := giveA_len p h
                repeat (first
                  | refine x_move rfl rfl rfl (okq_reg rfl rfl) ?_
                  | refine x_assign rfl rfl rfl (okq_reg rfl rfl) ?_
                  | refine x_add rfl rfl rfl (wrap_i64 (by omega) (by omega)) rfl (okq_reg rfl rfl) ?_
                  | refine x_sub_ rfl rfl rfl (wrap_i64 (by omega) (by omega)) rfl (okq_reg rfl rfl) ?_
                  | refine x_sub_ rfl rfl rfl (wrap_u32 (by omega) (by omega)) rfl (okq_reg rfl rfl) ?_
                  | refine x_mul rfl rfl rfl (wrap_i64 (by omega) (by omega)) rfl (okq_reg rfl rfl) ?_
                  | refine x_ibin rfl rfl rfl rfl rfl (okq_reg rfl rfl) ?_
                  | refine x_len rfl rfl (by assumption) rfl (okq_reg rfl rfl) ?_
                  | refine x_pick_t rfl rfl rfl rfl (okq_reg rfl rfl) ?_
                  | refine x_pick_f rfl rfl rfl rfl (okq_reg rfl rfl) ?_
                  | refine x_not rfl rfl rfl (okq_reg rfl rfl) ?_
                  | refine x_extract rfl rfl rfl rfl (okq_reg rfl rfl) ?_
                  | refine x_nilCheck rfl rfl rfl (okq_reg rfl rfl) ?_
                  | refine x_fieldAddr rfl rfl rfl rfl (okq_reg rfl rfl) ?_
                  | refine x_skip (okq_reg rfl rfl) rfl rfl rfl ?_
                  | refine x_indexAddr1 rfl rfl rfl (by assumption) (by omega) (by omega) rfl (okq_reg rfl rfl) ?_
                  | refine x_indexAddr rfl rfl rfl (by assumption) (by omega) (by omega) rfl (okq_reg rfl rfl) ?_
                  | refine x_nil ?_
                  | refine cw_seq ?_
                  | refine nw_seq ?_
                  | refine nw_block ?_
                  | refine cw_block ?_
                  | refine cw_skip ?_
                  | refine cw_region ?_
                  | refine cw_exit rfl ?_
                  | refine cw_true rfl ?_
                  | refine cw_false rfl ?_)
                refine cw_cond rfl (fun h => absurd h (by simp)) (fun _ => ?_)
                repeat (first
                  | refine x_move rfl rfl rfl trivial ?_
                  | refine x_assign rfl rfl rfl trivial ?_
                  | refine x_add rfl rfl rfl (wrap_i64 (by omega) (by omega)) rfl trivial ?_
                  | refine x_sub_ rfl rfl rfl (wrap_i64 (by omega) (by omega)) rfl trivial ?_
                  | refine x_sub_ rfl rfl rfl (wrap_u32 (by omega) (by omega)) rfl trivial ?_
                  | refine x_add rfl rfl rfl (wrap_u32 (by omega) (by omega)) rfl trivial ?_
                  | refine x_peqn rfl rfl rfl rfl trivial ?_
                  | refine x_pnen rfl rfl rfl rfl trivial ?_
                  | refine x_mul rfl rfl rfl (wrap_i64 (by omega) (by omega)) rfl trivial ?_
                  | refine x_ibin rfl rfl rfl rfl rfl trivial ?_
                  | refine x_neg_ rfl rfl (wrap_i64 (by omega) (by omega)) rfl trivial ?_
                  | refine x_len rfl rfl (by assumption) rfl trivial ?_
                  | refine x_pick_t rfl rfl rfl rfl trivial ?_
                  | refine x_pick_f rfl rfl rfl rfl trivial ?_
                  | refine x_not rfl rfl rfl trivial ?_
                  | refine x_beq rfl rfl rfl rfl trivial ?_
                  | refine x_bne rfl rfl rfl rfl trivial ?_
                  | refine x_extract rfl rfl rfl rfl trivial ?_
                  | refine x_nilCheck rfl rfl rfl trivial ?_
                  | refine x_fieldAddr rfl rfl rfl rfl trivial ?_
                  | refine x_skip trivial rfl rfl rfl ?_
                  | refine x_indexAddr1 rfl rfl rfl (by assumption) (by omega) (by omega) rfl trivial ?_
                  | refine x_indexAddr rfl rfl rfl (by assumption) (by omega) (by omega) rfl trivial ?_
                  | refine x_nil ?_
                  | refine cw_seq ?_
                  | refine nw_seq ?_
                  | refine nw_block ?_
                  | refine cw_block ?_
                  | refine cw_skip ?_
                  | refine cw_region ?_
                  | refine cw_exit rfl ?_
                  | refine cw_true rfl ?_
                  | refine cw_false rfl ?_)
                refine nw_meet (giveA p h).2 (by repeat (first | exact True.intro | refine ⟨rfl, ?_⟩)) ⟨giveA_wf hw h, l3.trans hpm, by omega, by omega, k07, hX7, ?_, K6, G7, hS7, hQ7, (hKG6.symm.ext hS6.kin hE7).symm, hf.ext hE6 k05.size, hg.ext hE7 k06.size⟩
                have := hk6.size
                have := hk7.size
                omega
              · repeat (first
                  | refine x_move rfl rfl rfl trivial ?_
                  | refine x_assign rfl rfl rfl trivial ?_
                  | refine x_add rfl rfl rfl (wrap_i64 (by omega) (by omega)) rfl trivial ?_
                  | refine x_sub_ rfl rfl rfl (wrap_i64 (by omega) (by omega)) rfl trivial ?_
                  | refine x_sub_ rfl rfl rfl (wrap_u32 (by omega) (by omega)) rfl trivial ?_
                  | refine x_add rfl rfl rfl (wrap_u32 (by omega) (by omega)) rfl trivial ?_
                  | refine x_peqn rfl rfl rfl rfl trivial ?_
                  | refine x_pnen rfl rfl rfl rfl trivial ?_
                  | refine x_mul rfl rfl rfl (wrap_i64 (by omega) (by omega)) rfl trivial ?_
                  | refine x_ibin rfl rfl rfl rfl rfl trivial ?_
                  | refine x_neg_ rfl rfl (wrap_i64 (by omega) (by omega)) rfl trivial ?_
                  | refine x_len rfl rfl (by assumption) rfl trivial ?_
                  | refine x_pick_t rfl rfl rfl rfl trivial ?_
                  | refine x_pick_f rfl rfl rfl rfl trivial ?_
                  | refine x_not rfl rfl rfl trivial ?_
                  | refine x_beq rfl rfl rfl rfl trivial ?_
                  | refine x_bne rfl rfl rfl rfl trivial ?_
                  | refine x_extract rfl rfl rfl rfl trivial ?_
                  | refine x_nilCheck rfl rfl rfl trivial ?_
                  | refine x_fieldAddr rfl rfl rfl rfl trivial ?_
                  | refine x_skip trivial rfl rfl rfl ?_
                  | refine x_indexAddr1 rfl rfl rfl (by assumption) (by omega) (by omega) rfl trivial ?_
                  | refine x_indexAddr rfl rfl rfl (by assumption) (by omega) (by omega) rfl trivial ?_
                  | refine x_nil ?_
                  | refine cw_seq ?_
                  | refine nw_seq ?_
                  | refine nw_block ?_
                  | refine cw_block ?_
                  | refine cw_skip ?_
                  | refine cw_region ?_
                  | refine cw_exit rfl ?_
                  | refine cw_true rfl ?_
                  | refine cw_false rfl ?_)
                refine cw_cond rfl (fun hd2 => ?_) (fun hd2 => ?_) <;> (try simp at hd2)
                · repeat (first
                    | refine x_move rfl rfl rfl trivial ?_
                    | refine x_assign rfl rfl rfl trivial ?_
                    | refine x_add rfl rfl rfl (wrap_i64 (by omega) (by omega)) rfl trivial ?_
                    | refine x_sub_ rfl rfl rfl (wrap_i64 (by omega) (by omega)) rfl trivial ?_
                    | refine x_sub_ rfl rfl rfl (wrap_u32 (by omega) (by omega)) rfl trivial ?_
                    | refine x_add rfl rfl rfl (wrap_u32 (by omega) (by omega)) rfl trivial ?_
                    | refine x_peqn rfl rfl rfl rfl trivial ?_
                    | refine x_pnen rfl rfl rfl rfl trivial ?_
                    | refine x_mul rfl rfl rfl (wrap_i64 (by omega) (by omega)) rfl trivial ?_
                    | refine x_ibin rfl rfl rfl rfl rfl trivial ?_
                    | refine x_neg_ rfl rfl (wrap_i64 (by omega) (by omega)) rfl trivial ?_
                    | refine x_len rfl rfl (by assumption) rfl trivial ?_
                    | refine x_pick_t rfl rfl rfl rfl trivial ?_
                    | refine x_pick_f rfl rfl rfl rfl trivial ?_
                    | refine x_not rfl rfl rfl trivial ?_
                    | refine x_beq rfl rfl rfl rfl trivial ?_
                    | refine x_bne rfl rfl rfl rfl trivial ?_
                    | refine x_extract rfl rfl rfl rfl trivial ?_
                    | refine x_nilCheck rfl rfl rfl trivial ?_
                    | refine x_fieldAddr rfl rfl rfl rfl trivial ?_
                    | refine x_skip trivial rfl rfl rfl ?_
                    | refine x_indexAddr1 rfl rfl rfl (by assumption) (by omega) (by omega) rfl trivial ?_
                    | refine x_indexAddr rfl rfl rfl (by assumption) (by omega) (by omega) rfl trivial ?_
                    | refine x_nil ?_
                    | refine cw_seq ?_
                    | refine nw_seq ?_
                    | refine nw_block ?_
                    | refine cw_block ?_
                    | refine cw_skip ?_
                    | refine cw_region ?_
                    | refine cw_exit rfl ?_
                    | refine cw_true rfl ?_
                    | refine cw_false rfl ?_)
                  refine x_load rfl rfl (hpmt (c52)) rfl trivial ?_
                  repeat (first
                    | refine x_move rfl rfl rfl trivial ?_
                    | refine x_assign rfl rfl rfl trivial ?_
                    | refine x_add rfl rfl rfl (wrap_i64 (by omega) (by omega)) rfl trivial ?_
                    | refine x_sub_ rfl rfl rfl (wrap_i64 (by omega) (by omega)) rfl trivial ?_
                    | refine x_sub_ rfl rfl rfl (wrap_u32 (by omega) (by omega)) rfl trivial ?_
                    | refine x_add rfl rfl rfl (wrap_u32 (by omega) (by omega)) rfl trivial ?_
                    | refine x_peqn rfl rfl rfl rfl trivial ?_
                    | refine x_pnen rfl rfl rfl rfl trivial ?_
                    | refine x_mul rfl rfl rfl (wrap_i64 (by omega) (by omega)) rfl trivial ?_
                    | refine x_ibin rfl rfl rfl rfl rfl trivial ?_
                    | refine x_neg_ rfl rfl (wrap_i64 (by omega) (by omega)) rfl trivial ?_
                    | refine x_len rfl rfl (by assumption) rfl trivial ?_
                    | refine x_pick_t rfl rfl rfl rfl trivial ?_
                    | refine x_pick_f rfl rfl rfl rfl trivial ?_
                    | refine x_not rfl rfl rfl trivial ?_
                    | refine x_beq rfl rfl rfl rfl trivial ?_
                    | refine x_bne rfl rfl rfl rfl trivial ?_
                    | refine x_extract rfl rfl rfl rfl trivial ?_
                    | refine x_nilCheck rfl rfl rfl trivial ?_
                    | refine x_fieldAddr rfl rfl rfl rfl trivial ?_
                    | refine x_skip trivial rfl rfl rfl ?_
                    | refine x_indexAddr1 rfl rfl rfl (by assumption) (by omega) (by omega) rfl trivial ?_
                    | refine x_indexAddr rfl rfl rfl (by assumption) (by omega) (by omega) rfl trivial ?_
                    | refine x_nil ?_
                    | refine cw_seq ?_
                    | refine nw_seq ?_
                    | refine nw_block ?_
                    | refine cw_block ?_
                    | refine cw_skip ?_
                    | refine cw_region ?_
                    | refine cw_exit rfl ?_
                    | refine cw_true rfl ?_
                    | refine cw_false rfl ?_)
                  refine x_load rfl rfl (hpmt (c51)) rfl trivial ?_
                  refine x_call rfl rfl rfl trivial (arena_Get hS5 hh (by omega)) ?_
                  rintro _ _ ⟨rfl, rfl⟩
                  refine ⟨trivial, ?_⟩
                  repeat (first
                    | refine x_move rfl rfl rfl trivial ?_
                    | refine x_assign rfl rfl rfl trivial ?_
                    | refine x_add rfl rfl rfl (wrap_i64 (by omega) (by omega)) rfl trivial ?_
                    | refine x_sub_ rfl rfl rfl (wrap_i64 (by omega) (by omega)) rfl trivial ?_
                    | refine x_sub_ rfl rfl rfl (wrap_u32 (by omega) (by omega)) rfl trivial ?_
                    | refine x_add rfl rfl rfl (wrap_u32 (by omega) (by omega)) rfl trivial ?_
                    | refine x_peqn rfl rfl rfl rfl trivial ?_
                    | refine x_pnen rfl rfl rfl rfl trivial ?_
                    | refine x_mul rfl rfl rfl (wrap_i64 (by omega) (by omega)) rfl trivial ?_
                    | refine x_ibin rfl rfl rfl rfl rfl trivial ?_
                    | refine x_neg_ rfl rfl (wrap_i64 (by omega) (by omega)) rfl trivial ?_
                    | refine x_len rfl rfl (by assumption) rfl trivial ?_
                    | refine x_pick_t rfl rfl rfl rfl trivial ?_
                    | refine x_pick_f rfl rfl rfl rfl trivial ?_
                    | refine x_not rfl rfl rfl trivial ?_
                    | refine x_beq rfl rfl rfl rfl trivial ?_
                    | refine x_bne rfl rfl rfl rfl trivial ?_
                    | refine x_extract rfl rfl rfl rfl trivial ?_
                    | refine x_nilCheck rfl rfl rfl trivial ?_
                    | refine x_fieldAddr rfl rfl rfl rfl trivial ?_
                    | refine x_skip trivial rfl rfl rfl ?_
                    | refine x_indexAddr1 rfl rfl rfl (by assumption) (by omega) (by omega) rfl trivial ?_
                    | refine x_indexAddr rfl rfl rfl (by assumption) (by omega) (by omega) rfl trivial ?_
                    | refine x_nil ?_
                    | refine cw_seq ?_
                    | refine nw_seq ?_
                    | refine nw_block ?_
                    | refine cw_block ?_
                    | refine cw_skip ?_
                    | refine cw_region ?_
                    | refine cw_exit rfl ?_
                    | refine cw_true rfl ?_
                    | refine cw_false rfl ?_)
                  refine x_load rfl rfl (hpmt (c52)) rfl trivial ?_
                  repeat (first
                    | refine x_move rfl rfl rfl trivial ?_
                    | refine x_assign rfl rfl rfl trivial ?_
                    | refine x_add rfl rfl rfl (wrap_i64 (by omega) (by omega)) rfl trivial ?_
                    | refine x_sub_ rfl rfl rfl (wrap_i64 (by omega) (by omega)) rfl trivial ?_
                    | refine x_sub_ rfl rfl rfl (wrap_u32 (by omega) (by omega)) rfl trivial ?_
                    | refine x_add rfl rfl rfl (wrap_u32 (by omega) (by omega)) rfl trivial ?_
                    | refine x_peqn rfl rfl rfl rfl trivial ?_
                    | refine x_pnen rfl rfl rfl rfl trivial ?_
                    | refine x_mul rfl rfl rfl (wrap_i64 (by omega) (by omega)) rfl trivial ?_
                    | refine x_ibin rfl rfl rfl rfl rfl trivial ?_
                    | refine x_neg_ rfl rfl (wrap_i64 (by omega) (by omega)) rfl trivial ?_
                    | refine x_len rfl rfl (by assumption) rfl trivial ?_
                    | refine x_pick_t rfl rfl rfl rfl trivial ?_
                    | refine x_pick_f rfl rfl rfl rfl trivial ?_
                    | refine x_not rfl rfl rfl trivial ?_
                    | refine x_beq rfl rfl rfl rfl trivial ?_
                    | refine x_bne rfl rfl rfl rfl trivial ?_
                    | refine x_extract rfl rfl rfl rfl trivial ?_
                    | refine x_nilCheck rfl rfl rfl trivial ?_
                    | refine x_fieldAddr rfl rfl rfl rfl trivial ?_
                    | refine x_skip trivial rfl rfl rfl ?_
                    | refine x_indexAddr1 rfl rfl rfl (by assumption) (by omega) (by omega) rfl trivial ?_
                    | refine x_indexAddr rfl rfl rfl (by assumption) (by omega) (by omega) rfl trivial ?_
                    | refine x_nil ?_
                    | refine cw_seq ?_
                    | refine nw_seq ?_
                    | refine nw_block ?_
                    | refine cw_block ?_
                    | refine cw_skip ?_
                    | refine cw_region ?_
                    | refine cw_exit rfl ?_
                    | refine cw_true rfl ?_
                    | refine cw_false rfl ?_)
                  refine x_load rfl rfl (hpmt (c51)) rfl trivial ?_
                  refine x_call rfl rfl rfl trivial (ref5_Word hQ5 hh (by omega)) ?_
                  rintro _ H6 ⟨rfl, hk6, hQ6, heq⟩
                  refine ⟨trivial, ?_⟩
                  obtain rfl := heq rfl
                  repeat (first
                    | refine x_move rfl rfl rfl trivial ?_
                    | refine x_assign rfl rfl rfl trivial ?_
                    | refine x_add rfl rfl rfl (wrap_i64 (by omega) (by omega)) rfl trivial ?_
                    | refine x_sub_ rfl rfl rfl (wrap_i64 (by omega) (by omega)) rfl trivial ?_
                    | refine x_sub_ rfl rfl rfl (wrap_u32 (by omega) (by omega)) rfl trivial ?_
                    | refine x_add rfl rfl rfl (wrap_u32 (by omega) (by omega)) rfl trivial ?_
                    | refine x_peqn rfl rfl rfl rfl trivial ?_
                    | refine x_pnen rfl rfl rfl rfl trivial ?_
                    | refine x_mul rfl rfl rfl (wrap_i64 (by omega) (by omega)) rfl trivial ?_
                    | refine x_ibin rfl rfl rfl rfl rfl trivial ?_
                    | refine x_neg_ rfl rfl (wrap_i64 (by omega) (by omega)) rfl trivial ?_
                    | refine x_len rfl rfl (by assumption) rfl trivial ?_
                    | refine x_pick_t rfl rfl rfl rfl trivial ?_
                    | refine x_pick_f rfl rfl rfl rfl trivial ?_
                    | refine x_not rfl rfl rfl trivial ?_
                    | refine x_beq rfl rfl rfl rfl trivial ?_
                    | refine x_bne rfl rfl rfl rfl trivial ?_
                    | refine x_extract rfl rfl rfl rfl trivial ?_
                    | refine x_nilCheck rfl rfl rfl trivial ?_
                    | refine x_fieldAddr rfl rfl rfl rfl trivial ?_
                    | refine x_skip trivial rfl rfl rfl ?_
                    | refine x_indexAddr1 rfl rfl rfl (by assumption) (by omega) (by omega) rfl trivial ?_
                    | refine x_indexAddr rfl rfl rfl (by assumption) (by omega) (by omega) rfl trivial ?_
                    | refine x_nil ?_
                    | refine cw_seq ?_
                    | refine nw_seq ?_
                    | refine nw_block ?_
                    | refine cw_block ?_
                    | refine cw_skip ?_
                    | refine cw_region ?_
                    | refine cw_exit rfl ?_
                    | refine cw_true rfl ?_
                    | refine cw_false rfl ?_)
                  refine x_false 131 rfl (by simp) ?_
                  repeat (first
                    | refine x_move rfl rfl rfl trivial ?_
                    | refine x_assign rfl rfl rfl trivial ?_
                    | refine x_add rfl rfl rfl (wrap_i64 (by omega) (by omega)) rfl trivial ?_
                    | refine x_sub_ rfl rfl rfl (wrap_i64 (by omega) (by omega)) rfl trivial ?_
                    | refine x_sub_ rfl rfl rfl (wrap_u32 (by omega) (by omega)) rfl trivial ?_
                    | refine x_add rfl rfl rfl (wrap_u32 (by omega) (by omega)) rfl trivial ?_
                    | refine x_peqn rfl rfl rfl rfl trivial ?_
                    | refine x_pnen rfl rfl rfl rfl trivial ?_
                    | refine x_mul rfl rfl rfl (wrap_i64 (by omega) (by omega)) rfl trivial ?_
                    | refine x_ibin rfl rfl rfl rfl rfl trivial ?_
                    | refine x_neg_ rfl rfl (wrap_i64 (by omega) (by omega)) rfl trivial ?_
                    | refine x_len rfl rfl (by assumption) rfl trivial ?_
                    | refine x_pick_t rfl rfl rfl rfl trivial ?_
                    | refine x_pick_f rfl rfl rfl rfl trivial ?_
                    | refine x_not rfl rfl rfl trivial ?_
                    | refine x_beq rfl rfl rfl rfl trivial ?_
                    | refine x_bne rfl rfl rfl rfl trivial ?_
                    | refine x_extract rfl rfl rfl rfl trivial ?_
                    | refine x_nilCheck rfl rfl rfl trivial ?_
                    | refine x_fieldAddr rfl rfl rfl rfl trivial ?_
                    | refine x_skip trivial rfl rfl rfl ?_
                    | refine x_indexAddr1 rfl rfl rfl (by assumption) (by omega) (by omega) rfl trivial ?_
                    | refine x_indexAddr rfl rfl rfl (by assumption) (by omega) (by omega) rfl trivial ?_
                    | refine x_nil ?_
                    | refine cw_seq ?_
                    | refine nw_seq ?_
                    | refine nw_block ?_
                    | refine cw_block ?_
                    | refine cw_skip ?_
                    | refine cw_region ?_
                    | refine cw_exit rfl ?_
                    | refine cw_true rfl ?_
                    | refine cw_false rfl ?_)
                  refine cw_cond rfl (fun h => absurd h (by simp)) (fun _ => ?_)
                  repeat (first
                    | refine x_move rfl rfl rfl trivial ?_
                    | refine x_assign rfl rfl rfl trivial ?_
                    | refine x_add rfl rfl rfl (wrap_i64 (by omega) (by omega)) rfl trivial ?_
                    | refine x_sub_ rfl rfl rfl (wrap_i64 (by omega) (by omega)) rfl trivial ?_
                    | refine x_sub_ rfl rfl rfl (wrap_u32 (by omega) (by omega)) rfl trivial ?_
                    | refine x_add rfl rfl rfl (wrap_u32 (by omega) (by omega)) rfl trivial ?_
                    | refine x_peqn rfl rfl rfl rfl trivial ?_
                    | refine x_pnen rfl rfl rfl rfl trivial ?_
                    | refine x_mul rfl rfl rfl (wrap_i64 (by omega) (by omega)) rfl trivial ?_
                    | refine x_ibin rfl rfl rfl rfl rfl trivial ?_
                    | refine x_neg_ rfl rfl (wrap_i64 (by omega) (by omega)) rfl trivial ?_
                    | refine x_len rfl rfl (by assumption) rfl trivial ?_
                    | refine x_pick_t rfl rfl rfl rfl trivial ?_
                    | refine x_pick_f rfl rfl rfl rfl trivial ?_
                    | refine x_not rfl rfl rfl trivial ?_
                    | refine x_beq rfl rfl rfl rfl trivial ?_
                    | refine x_bne rfl rfl rfl rfl trivial ?_
                    | refine x_extract rfl rfl rfl rfl trivial ?_
                    | refine x_nilCheck rfl rfl rfl trivial ?_
                    | refine x_fieldAddr rfl rfl rfl rfl trivial ?_
                    | refine x_skip trivial rfl rfl rfl ?_
                    | refine x_indexAddr1 rfl rfl rfl (by assumption) (by omega) (by omega) rfl trivial ?_
                    | refine x_indexAddr rfl rfl rfl (by assumption) (by omega) (by omega) rfl trivial ?_
                    | refine x_nil ?_
                    | refine cw_seq ?_
                    | refine nw_seq ?_
                    | refine nw_block ?_
                    | refine cw_block ?_
                    | refine cw_skip ?_
                    | refine cw_region ?_
                    | refine cw_exit rfl ?_
                    | refine cw_true rfl ?_
                    | refine cw_false rfl ?_)
                  exact nw_meet p (by repeat (first | exact True.intro | refine ⟨rfl, ?_⟩)) ⟨hw, hpm, by omega, by omega, k05, hX5, Nat.le_refl _, K, G, hS5, hQ5, hKG, hf, hg⟩
                · repeat (first
                    | refine x_move rfl rfl rfl trivial ?_
                    | refine x_assign rfl rfl rfl trivial ?_
                    | refine x_add rfl rfl rfl (wrap_i64 (by omega) (by omega)) rfl trivial ?_
                    | refine x_sub_ rfl rfl rfl (wrap_i64 (by omega) (by omega)) rfl trivial ?_
                    | refine x_sub_ rfl rfl rfl (wrap_u32 (by omega) (by omega)) rfl trivial ?_
                    | refine x_add rfl rfl rfl (wrap_u32 (by omega) (by omega)) rfl trivial ?_
                    | refine x_peqn rfl rfl rfl rfl trivial ?_
                    | refine x_pnen rfl rfl rfl rfl trivial ?_
                    | refine x_mul rfl rfl rfl (wrap_i64 (by omega) (by omega)) rfl trivial ?_
                    | refine x_ibin rfl rfl rfl rfl rfl trivial ?_
                    | refine x_neg_ rfl rfl (wrap_i64 (by omega) (by omega)) rfl trivial ?_
                    | refine x_len rfl rfl (by assumption) rfl trivial ?_
                    | refine x_pick_t rfl rfl rfl rfl trivial ?_
                    | refine x_pick_f rfl rfl rfl rfl trivial ?_
                    | refine x_not rfl rfl rfl trivial ?_
                    | refine x_beq rfl rfl rfl rfl trivial ?_
                    | refine x_bne rfl rfl rfl rfl trivial ?_
                    | refine x_extract rfl rfl rfl rfl trivial ?_
                    | refine x_nilCheck rfl rfl rfl trivial ?_
                    | refine x_fieldAddr rfl rfl rfl rfl trivial ?_
                    | refine x_skip trivial rfl rfl rfl ?_
                    | refine x_indexAddr1 rfl rfl rfl (by assumption) (by omega) (by omega) rfl trivial ?_
                    | refine x_indexAddr rfl rfl rfl (by assumption) (by omega) (by omega) rfl trivial ?_
                    | refine x_nil ?_
                    | refine cw_seq ?_
                    | refine nw_seq ?_
                    | refine nw_block ?_
                    | refine cw_block ?_
                    | refine cw_skip ?_
                    | refine cw_region ?_
                    | refine cw_exit rfl ?_
                    | refine cw_true rfl ?_
                    | refine cw_false rfl ?_)
                  refine cw_cond rfl (fun hd3 => ?_) (fun hd3 => ?_) <;> (try simp at hd3)
                  · repeat (first
                      | refine x_move rfl rfl rfl trivial ?_
                      | refine x_assign rfl rfl rfl trivial ?_
                      | refine x_add rfl rfl rfl (wrap_i64 (by omega) (by omega)) rfl trivial ?_
                      | refine x_sub_ rfl rfl rfl (wrap_i64 (by omega) (by omega)) rfl trivial ?_
                      | refine x_sub_ rfl rfl rfl (wrap_u32 (by omega) (by omega)) rfl trivial ?_
                      | refine x_add rfl rfl rfl (wrap_u32 (by omega) (by omega)) rfl trivial ?_
                      | refine x_peqn rfl rfl rfl rfl trivial ?_
                      | refine x_pnen rfl rfl rfl rfl trivial ?_
                      | refine x_mul rfl rfl rfl (wrap_i64 (by omega) (by omega)) rfl trivial ?_
                      | refine x_ibin rfl rfl rfl rfl rfl trivial ?_
                      | refine x_neg_ rfl rfl (wrap_i64 (by omega) (by omega)) rfl trivial ?_
                      | refine x_len rfl rfl (by assumption) rfl trivial ?_
                      | refine x_pick_t rfl rfl rfl rfl trivial ?_
                      | refine x_pick_f rfl rfl rfl rfl trivial ?_
                      | refine x_not rfl rfl rfl trivial ?_
                      | refine x_beq rfl rfl rfl rfl trivial ?_
                      | refine x_bne rfl rfl rfl rfl trivial ?_
                      | refine x_extract rfl rfl rfl rfl trivial ?_
                      | refine x_nilCheck rfl rfl rfl trivial ?_
                      | refine x_fieldAddr rfl rfl rfl rfl trivial ?_
                      | refine x_skip trivial rfl rfl rfl ?_
                      | refine x_indexAddr1 rfl rfl rfl (by assumption) (by omega) (by omega) rfl trivial ?_
                      | refine x_indexAddr rfl rfl rfl (by assumption) (by omega) (by omega) rfl trivial ?_
                      | refine x_nil ?_
                      | refine cw_seq ?_
                      | refine nw_seq ?_
                      | refine nw_block ?_
                      | refine cw_block ?_
                      | refine cw_skip ?_
                      | refine cw_region ?_
                      | refine cw_exit rfl ?_
                      | refine cw_true rfl ?_
                      | refine cw_false rfl ?_)
                    refine x_load rfl rfl (hpmt (c52)) rfl trivial ?_
                    repeat (first
                      | refine x_move rfl rfl rfl trivial ?_
                      | refine x_assign rfl rfl rfl trivial ?_
                      | refine x_add rfl rfl rfl (wrap_i64 (by omega) (by omega)) rfl trivial ?_
                      | refine x_sub_ rfl rfl rfl (wrap_i64 (by omega) (by omega)) rfl trivial ?_
                      | refine x_sub_ rfl rfl rfl (wrap_u32 (by omega) (by omega)) rfl trivial ?_
                      | refine x_add rfl rfl rfl (wrap_u32 (by omega) (by omega)) rfl trivial ?_
                      | refine x_peqn rfl rfl rfl rfl trivial ?_
                      | refine x_pnen rfl rfl rfl rfl trivial ?_
                      | refine x_mul rfl rfl rfl (wrap_i64 (by omega) (by omega)) rfl trivial ?_
                      | refine x_ibin rfl rfl rfl rfl rfl trivial ?_
                      | refine x_neg_ rfl rfl (wrap_i64 (by omega) (by omega)) rfl trivial ?_
                      | refine x_len rfl rfl (by assumption) rfl trivial ?_
                      | refine x_pick_t rfl rfl rfl rfl trivial ?_
                      | refine x_pick_f rfl rfl rfl rfl trivial ?_
                      | refine x_not rfl rfl rfl trivial ?_
                      | refine x_beq rfl rfl rfl rfl trivial ?_
                      | refine x_bne rfl rfl rfl rfl trivial ?_
                      | refine x_extract rfl rfl rfl rfl trivial ?_
                      | refine x_nilCheck rfl rfl rfl trivial ?_
                      | refine x_fieldAddr rfl rfl rfl rfl trivial ?_
                      | refine x_skip trivial rfl rfl rfl ?_
                      | refine x_indexAddr1 rfl rfl rfl (by assumption) (by omega) (by omega) rfl trivial ?_
                      | refine x_indexAddr rfl rfl rfl (by assumption) (by omega) (by omega) rfl trivial ?_
                      | refine x_nil ?_
                      | refine cw_seq ?_
                      | refine nw_seq ?_
                      | refine nw_block ?_
                      | refine cw_block ?_
                      | refine cw_skip ?_
                      | refine cw_region ?_
                      | refine cw_exit rfl ?_
                      | refine cw_true rfl ?_
                      | refine cw_false rfl ?_)
                    refine x_load rfl rfl (hpmt (c51)) rfl trivial ?_
                    repeat (first
                      | refine x_move rfl rfl rfl trivial ?_
                      | refine x_assign rfl rfl rfl trivial ?_
                      | refine x_add rfl rfl rfl (wrap_i64 (by omega) (by omega)) rfl trivial ?_
                      | refine x_sub_ rfl rfl rfl (wrap_i64 (by omega) (by omega)) rfl trivial ?_
                      | refine x_sub_ rfl rfl rfl (wrap_u32 (by omega) (by omega)) rfl trivial ?_
                      | refine x_add rfl rfl rfl (wrap_u32 (by omega) (by omega)) rfl trivial ?_
                      | refine x_peqn rfl rfl rfl rfl trivial ?_
                      | refine x_pnen rfl rfl rfl rfl trivial ?_
                      | refine x_mul rfl rfl rfl (wrap_i64 (by omega) (by omega)) rfl trivial ?_
                      | refine x_ibin rfl rfl rfl rfl rfl trivial ?_
                      | refine x_neg_ rfl rfl (wrap_i64 (by omega) (by omega)) rfl trivial ?_
                      | refine x_len rfl rfl (by assumption) rfl trivial ?_
                      | refine x_pick_t rfl rfl rfl rfl trivial ?_
                      | refine x_pick_f rfl rfl rfl rfl trivial ?_
                      | refine x_not rfl rfl rfl trivial ?_
                      | refine x_beq rfl rfl rfl rfl trivial ?_
                      | refine x_bne rfl rfl rfl rfl trivial ?_
                      | refine x_extract rfl rfl rfl rfl trivial ?_
                      | refine x_nilCheck rfl rfl rfl trivial ?_
                      | refine x_fieldAddr rfl rfl rfl rfl trivial ?_
                      | refine x_skip trivial rfl rfl rfl ?_
                      | refine x_indexAddr1 rfl rfl rfl (by assumption) (by omega) (by omega) rfl trivial ?_
                      | refine x_indexAddr rfl rfl rfl (by assumption) (by omega) (by omega) rfl trivial ?_
                      | refine x_nil ?_
                      | refine cw_seq ?_
                      | refine nw_seq ?_
                      | refine nw_block ?_
                      | refine cw_block ?_
                      | refine cw_skip ?_
                      | refine cw_region ?_
                      | refine cw_exit rfl ?_
                      | refine cw_true rfl ?_
                      | refine cw_false rfl ?_)
                    refine x_call rfl rfl rfl trivial (ref5_Word (x := v9) (on := true) hQ5 hh (by omega)) ?_
                    rintro _ H6 ⟨rfl, hk6, hQ6, _⟩
                    refine ⟨trivial, ?_⟩
                    simp only [if_true] at hQ6
                    have hS6 := hS5.keep hk6 (hKG.symm.keep hk6 (fun _ h => h))
                    have hX6 := hX5.keep hk6 (fun e => e gL)
                    have k06 := hg.keep k05 hk6 (fun _ h => h)
                    have c62 : cel H6 H3.size 2 = some (.int .u32 (h : Nat)) := by rw [hX6.cel]; rfl
                    have c61 : cel H6 H3.size 1 = some (.int .i64 n) := by rw [hX6.cel]; rfl
                    repeat (first
                      | refine x_move rfl rfl rfl trivial ?_
                      | refine x_assign rfl rfl rfl trivial ?_
                      | refine x_add rfl rfl rfl (wrap_i64 (by omega) (by omega)) rfl trivial ?_
                      | refine x_sub_ rfl rfl rfl (wrap_i64 (by omega) (by omega)) rfl trivial ?_
                      | refine x_sub_ rfl rfl rfl (wrap_u32 (by omega) (by omega)) rfl trivial ?_
                      | refine x_add rfl rfl rfl (wrap_u32 (by omega) (by omega)) rfl trivial ?_
                      | refine x_peqn rfl rfl rfl rfl trivial ?_
                      | refine x_pnen rfl rfl rfl rfl trivial ?_
                      | refine x_mul rfl rfl rfl (wrap_i64 (by omega) (by omega)) rfl trivial ?_
                      | refine x_ibin rfl rfl rfl rfl rfl trivial ?_
                      | refine x_neg_ rfl rfl (wrap_i64 (by omega) (by omega)) rfl trivial ?_
                      | refine x_len rfl rfl (by assumption) rfl trivial ?_
                      | refine x_pick_t rfl rfl rfl rfl trivial ?_
                      | refine x_pick_f rfl rfl rfl rfl trivial ?_
                      | refine x_not rfl rfl rfl trivial ?_
                      | refine x_beq rfl rfl rfl rfl trivial ?_
                      | refine x_bne rfl rfl rfl rfl trivial ?_
                      | refine x_extract rfl rfl rfl rfl trivial ?_
                      | refine x_nilCheck rfl rfl rfl trivial ?_
                      | refine x_fieldAddr rfl rfl rfl rfl trivial ?_
                      | refine x_skip trivial rfl rfl rfl ?_
                      | refine x_indexAddr1 rfl rfl rfl (by assumption) (by omega) (by omega) rfl trivial ?_
                      | refine x_indexAddr rfl rfl rfl (by assumption) (by omega) (by omega) rfl trivial ?_
                      | refine x_nil ?_
                      | refine cw_seq ?_
                      | refine nw_seq ?_
                      | refine nw_block ?_
                      | refine cw_block ?_
                      | refine cw_skip ?_
                      | refine cw_region ?_
                      | refine cw_exit rfl ?_
                      | refine cw_true rfl ?_
                      | refine cw_false rfl ?_)
                    refine x_load rfl rfl (hpmt (c62)) rfl trivial ?_
                    repeat (first
                      | refine x_move rfl rfl rfl trivial ?_
                      | refine x_assign rfl rfl rfl trivial ?_
                      | refine x_add rfl rfl rfl (wrap_i64 (by omega) (by omega)) rfl trivial ?_
                      | refine x_sub_ rfl rfl rfl (wrap_i64 (by omega) (by omega)) rfl trivial ?_
                      | refine x_sub_ rfl rfl rfl (wrap_u32 (by omega) (by omega)) rfl trivial ?_
                      | refine x_add rfl rfl rfl (wrap_u32 (by omega) (by omega)) rfl trivial ?_
                      | refine x_peqn rfl rfl rfl rfl trivial ?_
                      | refine x_pnen rfl rfl rfl rfl trivial ?_
                      | refine x_mul rfl rfl rfl (wrap_i64 (by omega) (by omega)) rfl trivial ?_
                      | refine x_ibin rfl rfl rfl rfl rfl trivial ?_
                      | refine x_neg_ rfl rfl (wrap_i64 (by omega) (by omega)) rfl trivial ?_
                      | refine x_len rfl rfl (by assumption) rfl trivial ?_
                      | refine x_pick_t rfl rfl rfl rfl trivial ?_
                      | refine x_pick_f rfl rfl rfl rfl trivial ?_
                      | refine x_not rfl rfl rfl trivial ?_
                      | refine x_beq rfl rfl rfl rfl trivial ?_
                      | refine x_bne rfl rfl rfl rfl trivial ?_
                      | refine x_extract rfl rfl rfl rfl trivial ?_
                      | refine x_nilCheck rfl rfl rfl trivial ?_
                      | refine x_fieldAddr rfl rfl rfl rfl trivial ?_
                      | refine x_skip trivial rfl rfl rfl ?_
                      | refine x_indexAddr1 rfl rfl rfl (by assumption) (by omega) (by omega) rfl trivial ?_
                      | refine x_indexAddr rfl rfl rfl (by assumption) (by omega) (by omega) rfl trivial ?_
                      | refine x_nil ?_
                      | refine cw_seq ?_
                      | refine nw_seq ?_
                      | refine nw_block ?_
                      | refine cw_block ?_
                      | refine cw_skip ?_
                      | refine cw_region ?_
                      | refine cw_exit rfl ?_
                      | refine cw_true rfl ?_
                      | refine cw_false rfl ?_)
                    refine x_load rfl rfl (hpmt (c61)) rfl trivial ?_
                    repeat (first
                      | refine x_move rfl rfl rfl trivial ?_
                      | refine x_assign rfl rfl rfl trivial ?_
                      | refine x_add rfl rfl rfl (wrap_i64 (by omega) (by omega)) rfl trivial ?_
                      | refine x_sub_ rfl rfl rfl (wrap_i64 (by omega) (by omega)) rfl trivial ?_
                      | refine x_sub_ rfl rfl rfl (wrap_u32 (by omega) (by omega)) rfl trivial ?_
                      | refine x_add rfl rfl rfl (wrap_u32 (by omega) (by omega)) rfl trivial ?_
                      | refine x_peqn rfl rfl rfl rfl trivial ?_
                      | refine x_pnen rfl rfl rfl rfl trivial ?_
                      | refine x_mul rfl rfl rfl (wrap_i64 (by omega) (by omega)) rfl trivial ?_
                      | refine x_ibin rfl rfl rfl rfl rfl trivial ?_
                      | refine x_neg_ rfl rfl (wrap_i64 (by omega) (by omega)) rfl trivial ?_
                      | refine x_len rfl rfl (by assumption) rfl trivial ?_
                      | refine x_pick_t rfl rfl rfl rfl trivial ?_
                      | refine x_pick_f rfl rfl rfl rfl trivial ?_
                      | refine x_not rfl rfl rfl trivial ?_
                      | refine x_beq rfl rfl rfl rfl trivial ?_
                      | refine x_bne rfl rfl rfl rfl trivial ?_
                      | refine x_extract rfl rfl rfl rfl trivial ?_
                      | refine x_nilCheck rfl rfl rfl trivial ?_
                      | refine x_fieldAddr rfl rfl rfl rfl trivial ?_
                      | refine x_skip trivial rfl rfl rfl ?_
                      | refine x_indexAddr1 rfl rfl rfl (by assumption) (by omega) (by omega) rfl trivial ?_
                      | refine x_indexAddr rfl rfl rfl (by assumption) (by omega) (by omega) rfl trivial ?_
                      | refine x_nil ?_
                      | refine cw_seq ?_
                      | refine nw_seq ?_
                      | refine nw_block ?_
                      | refine cw_block ?_
                      | refine cw_skip ?_
                      | refine cw_region ?_
                      | refine cw_exit rfl ?_
                      | refine cw_true rfl ?_
                      | refine cw_false rfl ?_)
                    refine x_call rfl rfl rfl trivial (arena_Set (i := n) (x := v9) hS6 hh (by omega)) ?_
                    rintro _ H7 ⟨rfl, hk7, hS7⟩
                    refine ⟨trivial, ?_⟩
                    have hQ7 := hQ6.keep hk7 (hKG.keep hk7 (fun _ h => h))
                    have hX7 := hX6.keep hk7 (fun e => e kL)
                    have k07 := hf.keep k06 hk7 (fun _ h => h)
                    obtain ⟨l1, l2, l3⟩ := setA_len p h n v9
                    repeat (first
                      | refine x_move rfl rfl rfl trivial ?_
                      | refine x_assign rfl rfl rfl trivial ?_
                      | refine x_add rfl rfl rfl (wrap_i64 (by omega) (by omega)) rfl trivial ?_
                      | refine x_sub_ rfl rfl rfl (wrap_i64 (by omega) (by omega)) rfl trivial ?_
                      | refine x_sub_ rfl rfl rfl (wrap_u32 (by omega) (by omega)) rfl trivial ?_
                      | refine x_add rfl rfl rfl (wrap_u32 (by omega) (by omega)) rfl trivial ?_
                      | refine x_peqn rfl rfl rfl rfl trivial ?_
                      | refine x_pnen rfl rfl rfl rfl trivial ?_
                      | refine x_mul rfl rfl rfl (wrap_i64 (by omega) (by omega)) rfl trivial ?_
                      | refine x_ibin rfl rfl rfl rfl rfl trivial ?_
                      | refine x_neg_ rfl rfl (wrap_i64 (by omega) (by omega)) rfl trivial ?_
                      | refine x_len rfl rfl (by assumption) rfl trivial ?_
                      | refine x_pick_t rfl rfl rfl rfl trivial ?_
                      | refine x_pick_f rfl rfl rfl rfl trivial ?_
                      | refine x_not rfl rfl rfl trivial ?_
                      | refine x_beq rfl rfl rfl rfl trivial ?_
                      | refine x_bne rfl rfl rfl rfl trivial ?_
                      | refine x_extract rfl rfl rfl rfl trivial ?_
                      | refine x_nilCheck rfl rfl rfl trivial ?_
                      | refine x_fieldAddr rfl rfl rfl rfl trivial ?_
                      | refine x_skip trivial rfl rfl rfl ?_
                      | refine x_indexAddr1 rfl rfl rfl (by assumption) (by omega) (by omega) rfl trivial ?_
                      | refine x_indexAddr rfl rfl rfl (by assumption) (by omega) (by omega) rfl trivial ?_
                      | refine x_nil ?_
                      | refine cw_seq ?_
                      | refine nw_seq ?_
                      | refine nw_block ?_
                      | refine cw_block ?_
                      | refine cw_skip ?_
                      | refine cw_region ?_
                      | refine cw_exit rfl ?_
                      | refine cw_true rfl ?_
                      | refine cw_false rfl ?_)
                    refine cw_cond rfl (fun h => absurd h (by simp)) (fun _ => ?_)
                    repeat (first
                      | refine x_move rfl rfl rfl trivial ?_
                      | refine x_assign rfl rfl rfl trivial ?_
                      | refine x_add rfl rfl rfl (wrap_i64 (by omega) (by omega)) rfl trivial ?_
                      | refine x_sub_ rfl rfl rfl (wrap_i64 (by omega) (by omega)) rfl trivial ?_
                      | refine x_sub_ rfl rfl rfl (wrap_u32 (by omega) (by omega)) rfl trivial ?_
                      | refine x_add rfl rfl rfl (wrap_u32 (by omega) (by omega)) rfl trivial ?_
                      | refine x_peqn rfl rfl rfl rfl trivial ?_
                      | refine x_pnen rfl rfl rfl rfl trivial ?_
                      | refine x_mul rfl rfl rfl (wrap_i64 (by omega) (by omega)) rfl trivial ?_
                      | refine x_ibin rfl rfl rfl rfl rfl trivial ?_
                      | refine x_neg_ rfl rfl (wrap_i64 (by omega) (by omega)) rfl trivial ?_
                      | refine x_len rfl rfl (by assumption) rfl trivial ?_
                      | refine x_pick_t rfl rfl rfl rfl trivial ?_
                      | refine x_pick_f rfl rfl rfl rfl trivial ?_
                      | refine x_not rfl rfl rfl trivial ?_
                      | refine x_beq rfl rfl rfl rfl trivial ?_
                      | refine x_bne rfl rfl rfl rfl trivial ?_
                      | refine x_extract rfl rfl rfl rfl trivial ?_
                      | refine x_nilCheck rfl rfl rfl trivial ?_
                      | refine x_fieldAddr rfl rfl rfl rfl trivial ?_
                      | refine x_skip trivial rfl rfl rfl ?_
                      | refine x_indexAddr1 rfl rfl rfl (by assumption) (by omega) (by omega) rfl trivial ?_
                      | refine x_indexAddr rfl rfl rfl (by assumption) (by omega) (by omega) rfl trivial ?_
                      | refine x_nil ?_
                      | refine cw_seq ?_
                      | refine nw_seq ?_
                      | refine nw_block ?_
                      | refine cw_block ?_
                      | refine cw_skip ?_
                      | refine cw_region ?_
                      | refine cw_exit rfl ?_
                      | refine cw_true rfl ?_
                      | refine cw_false rfl ?_)
                    refine nw_meet (setA p h n v9) (by repeat (first | exact True.intro | refine ⟨rfl, ?_⟩)) ⟨setA_wf hw h n v9, l3.trans hpm, by omega, by rw [l2]; omega, k07, hX7, ?_, K, G, hS7, hQ7, hKG, hf, hg⟩
                    have := hk6.size
                    have := hk7.size
                    omega
                  · repeat (first
                      | refine x_move rfl rfl rfl trivial ?_
                      | refine x_assign rfl rfl rfl trivial ?_
                      | refine x_add rfl rfl rfl (wrap_i64 (by omega) (by omega)) rfl trivial ?_
                      | refine x_sub_ rfl rfl rfl (wrap_i64 (by omega) (by omega)) rfl trivial ?_
                      | refine x_sub_ rfl rfl rfl (wrap_u32 (by omega) (by omega)) rfl trivial ?_
                      | refine x_add rfl rfl rfl (wrap_u32 (by omega) (by omega)) rfl trivial ?_
                      | refine x_peqn rfl rfl rfl rfl trivial ?_
                      | refine x_pnen rfl rfl rfl rfl trivial ?_
                      | refine x_mul rfl rfl rfl (wrap_i64 (by omega) (by omega)) rfl trivial ?_
                      | refine x_ibin rfl rfl rfl rfl rfl trivial ?_
                      | refine x_neg_ rfl rfl (wrap_i64 (by omega) (by omega)) rfl trivial ?_
                      | refine x_len rfl rfl (by assumption) rfl trivial ?_
                      | refine x_pick_t rfl rfl rfl rfl trivial ?_
                      | refine x_pick_f rfl rfl rfl rfl trivial ?_
                      | refine x_not rfl rfl rfl trivial ?_
                      | refine x_beq rfl rfl rfl rfl trivial ?_
                      | refine x_bne rfl rfl rfl rfl trivial ?_
                      | refine x_extract rfl rfl rfl rfl trivial ?_
                      | refine x_nilCheck rfl rfl rfl trivial ?_
                      | refine x_fieldAddr rfl rfl rfl rfl trivial ?_
                      | refine x_skip trivial rfl rfl rfl ?_
                      | refine x_indexAddr1 rfl rfl rfl (by assumption) (by omega) (by omega) rfl trivial ?_
                      | refine x_indexAddr rfl rfl rfl (by assumption) (by omega) (by omega) rfl trivial ?_
                      | refine x_nil ?_
                      | refine cw_seq ?_
                      | refine nw_seq ?_
                      | refine nw_block ?_
                      | refine cw_block ?_
                      | refine cw_skip ?_
                      | refine cw_region ?_
                      | refine cw_exit rfl ?_
                      | refine cw_true rfl ?_
                      | refine cw_false rfl ?_)
                    exact nw_meet p (by repeat (first | exact True.intro | refine ⟨rfl, ?_⟩)) ⟨hw, hpm, by omega, by omega, k05, hX5, Nat.le_refl _, K, G, hS5, hQ5, hKG, hf, hg⟩
          · rintro p' H6 ⟨hw6, hpm6, htx6, hbk6, hk6, hX6, hsz6, K', G', hS6, hQ6, hKG6, hf6, hg6⟩
            have c62 : cel H6 H3.size 2 = some (.int .u32 (h : Nat)) := by rw [hX6.cel]; rfl
            repeat (first
              | refine x_move rfl rfl rfl trivial ?_
              | refine x_assign rfl rfl rfl trivial ?_
              | refine x_add rfl rfl rfl (wrap_i64 (by omega) (by omega)) rfl trivial ?_
              | refine x_sub_ rfl rfl rfl (wrap_i64 (by omega) (by omega)) rfl trivial ?_
              | refine x_sub_ rfl rfl rfl (wrap_u32 (by omega) (by omega)) rfl trivial ?_
              | refine x_add rfl rfl rfl (wrap_u32 (by omega) (by omega)) rfl trivial ?_
              | refine x_peqn rfl rfl rfl rfl trivial ?_
              | refine x_pnen rfl rfl rfl rfl trivial ?_
              | refine x_mul rfl rfl rfl (wrap_i64 (by omega) (by omega)) rfl trivial ?_
              | refine x_ibin rfl rfl rfl rfl rfl trivial ?_
              | refine x_neg_ rfl rfl (wrap_i64 (by omega) (by omega)) rfl trivial ?_
              | refine x_len rfl rfl (by assumption) rfl trivial ?_
              | refine x_pick_t rfl rfl rfl rfl trivial ?_
              | refine x_pick_f rfl rfl rfl rfl trivial ?_
              | refine x_not rfl rfl rfl trivial ?_
              | refine x_beq rfl rfl rfl rfl trivial ?_
              | refine x_bne rfl rfl rfl rfl trivial ?_
              | refine x_extract rfl rfl rfl rfl trivial ?_
              | refine x_nilCheck rfl rfl rfl trivial ?_
              | refine x_fieldAddr rfl rfl rfl rfl trivial ?_
              | refine x_skip trivial rfl rfl rfl ?_
              | refine x_indexAddr1 rfl rfl rfl (by assumption) (by omega) (by omega) rfl trivial ?_
              | refine x_indexAddr rfl rfl rfl (by assumption) (by omega) (by omega) rfl trivial ?_
              | refine x_nil ?_
              | refine cw_seq ?_
              | refine nw_seq ?_
              | refine nw_block ?_
              | refine cw_block ?_
              | refine cw_skip ?_
              | refine cw_region ?_
              | refine cw_exit rfl ?_
              | refine cw_true rfl ?_
              | refine cw_false rfl ?_)
            refine x_load rfl rfl (hpmt (c62)) rfl trivial ?_
            refine x_call rfl rfl rfl trivial (ref5_There hQ6 hh (by omega)) ?_
            rintro _ _ ⟨rfl, rfl⟩
            refine ⟨trivial, ?_⟩
            have hl1 := hw6.live.1
            have hl2 := hw6.le
            repeat (first
              | refine x_move rfl rfl rfl trivial ?_
              | refine x_assign rfl rfl rfl trivial ?_
              | refine x_add rfl rfl rfl (wrap_i64 (by omega) (by omega)) rfl trivial ?_
              | refine x_sub_ rfl rfl rfl (wrap_i64 (by omega) (by omega)) rfl trivial ?_
              | refine x_mul rfl rfl rfl (wrap_i64 (by omega) (by omega)) rfl trivial ?_
              | refine x_ibin rfl rfl rfl rfl rfl trivial ?_
              | refine x_neg_ rfl rfl (wrap_i64 (by omega) (by omega)) rfl trivial ?_
              | refine x_len rfl rfl (by assumption) rfl trivial ?_
              | refine x_pick_t rfl rfl rfl rfl trivial ?_
              | refine x_pick_f rfl rfl rfl rfl trivial ?_
              | refine x_not rfl rfl rfl trivial ?_
              | refine x_beq rfl rfl rfl rfl trivial ?_
              | refine x_bne rfl rfl rfl rfl trivial ?_
              | refine x_extract rfl rfl rfl rfl trivial ?_
              | refine x_nilCheck rfl rfl rfl trivial ?_
              | refine x_fieldAddr rfl rfl rfl rfl trivial ?_
              | refine x_skip trivial rfl rfl rfl ?_
              | refine x_indexAddr1 rfl rfl rfl (by assumption) (by omega) (by omega) rfl trivial ?_
              | refine x_indexAddr rfl rfl rfl (by assumption) (by omega) (by omega) rfl trivial ?_
              | refine x_nil ?_
              | refine cw_seq ?_
              | refine nw_seq ?_
              | refine nw_block ?_
              | refine cw_skip ?_
              | refine cw_exit rfl ?_
              | refine cw_true rfl ?_
              | refine cw_false rfl ?_)
            refine cw_cut (fun s : Nat => [(0, .int .i64 most), (1, va), (5, ptr b 0), (6, ptr c 0), (7, .int .i64 i), (8, ptr H3.size 0), (21, .int .i64 s)]) (fun s H' => s = sizeA p' h ∧ H6 = H') ?_ ?_
            · refine cw_cond rfl (fun h0 => ?_) (fun h0 => ?_) <;> (try simp at h0)
              · obtain ⟨g1, bs, g2⟩ := hasA_iff.1 h0
                obtain ⟨vc, vb, hM⟩ := hQ6
                have sC := hM.hC.sl
                rw [List.length_zipIdx, rl_len] at sC
                have hlt' := (List.getElem?_eq_some_iff.1 g2).1
                obtain ⟨w, ho, _, hc0, _⟩ := hM.at_ (rl_get g1 g2)
                have sW' := ho.sl
                simp only at sW'
                have c60 : cel H6 c 0 = some vc := by rw [hM.hb.cel]; rfl
                have e : sizeA p' h = bs.length := by unfold sizeA wordsA; rw [h0, g2]; rfl
                repeat (first
                  | refine x_move rfl rfl rfl trivial ?_
                  | refine x_assign rfl rfl rfl trivial ?_
                  | refine x_add rfl rfl rfl (wrap_i64 (by omega) (by omega)) rfl trivial ?_
                  | refine x_sub_ rfl rfl rfl (wrap_i64 (by omega) (by omega)) rfl trivial ?_
                  | refine x_sub_ rfl rfl rfl (wrap_u32 (by omega) (by omega)) rfl trivial ?_
                  | refine x_add rfl rfl rfl (wrap_u32 (by omega) (by omega)) rfl trivial ?_
                  | refine x_peqn rfl rfl rfl rfl trivial ?_
                  | refine x_pnen rfl rfl rfl rfl trivial ?_
                  | refine x_mul rfl rfl rfl (wrap_i64 (by omega) (by omega)) rfl trivial ?_
                  | refine x_ibin rfl rfl rfl rfl rfl trivial ?_
                  | refine x_neg_ rfl rfl (wrap_i64 (by omega) (by omega)) rfl trivial ?_
                  | refine x_len rfl rfl (by assumption) rfl trivial ?_
                  | refine x_pick_t rfl rfl rfl rfl trivial ?_
                  | refine x_pick_f rfl rfl rfl rfl trivial ?_
                  | refine x_not rfl rfl rfl trivial ?_
                  | refine x_beq rfl rfl rfl rfl trivial ?_
                  | refine x_bne rfl rfl rfl rfl trivial ?_
                  | refine x_extract rfl rfl rfl rfl trivial ?_
                  | refine x_nilCheck rfl rfl rfl trivial ?_
                  | refine x_fieldAddr rfl rfl rfl rfl trivial ?_
                  | refine x_skip trivial rfl rfl rfl ?_
                  | refine x_indexAddr1 rfl rfl rfl (by assumption) (by omega) (by omega) rfl trivial ?_
                  | refine x_indexAddr rfl rfl rfl (by assumption) (by omega) (by omega) rfl trivial ?_
                  | refine x_nil ?_
                  | refine cw_seq ?_
                  | refine nw_seq ?_
                  | refine nw_block ?_
                  | refine cw_block ?_
                  | refine cw_skip ?_
                  | refine cw_region ?_
                  | refine cw_exit rfl ?_
                  | refine cw_true rfl ?_
                  | refine cw_false rfl ?_)
                refine cw_quiet mixed (by kernel_rfl) ?_
                repeat (first
                  | refine x_move rfl rfl rfl trivial ?_
                  | refine x_assign rfl rfl rfl trivial ?_
                  | refine x_add rfl rfl rfl (wrap_i64 (by omega) (by omega)) rfl trivial ?_
                  | refine x_sub_ rfl rfl rfl (wrap_i64 (by omega) (by omega)) rfl trivial ?_
                  | refine x_sub_ rfl rfl rfl (wrap_u32 (by omega) (by omega)) rfl trivial ?_
                  | refine x_add rfl rfl rfl (wrap_u32 (by omega) (by omega)) rfl trivial ?_
                  | refine x_peqn rfl rfl rfl rfl trivial ?_
                  | refine x_pnen rfl rfl rfl rfl trivial ?_
                  | refine x_mul rfl rfl rfl (wrap_i64 (by omega) (by omega)) rfl trivial ?_
                  | refine x_ibin rfl rfl rfl rfl rfl trivial ?_
                  | refine x_neg_ rfl rfl (wrap_i64 (by omega) (by omega)) rfl trivial ?_
                  | refine x_len rfl rfl (by assumption) rfl trivial ?_
                  | refine x_pick_t rfl rfl rfl rfl trivial ?_
                  | refine x_pick_f rfl rfl rfl rfl trivial ?_
                  | refine x_not rfl rfl rfl trivial ?_
                  | refine x_beq rfl rfl rfl rfl trivial ?_
                  | refine x_bne rfl rfl rfl rfl trivial ?_
                  | refine x_extract rfl rfl rfl rfl trivial ?_
                  | refine x_nilCheck rfl rfl rfl trivial ?_
                  | refine x_fieldAddr rfl rfl rfl rfl trivial ?_
                  | refine x_skip trivial rfl rfl rfl ?_
                  | refine x_indexAddr1 rfl rfl rfl (by assumption) (by omega) (by omega) rfl trivial ?_
                  | refine x_indexAddr rfl rfl rfl (by assumption) (by omega) (by omega) rfl trivial ?_
                  | refine x_nil ?_
                  | refine cw_seq ?_
                  | refine nw_seq ?_
                  | refine nw_block ?_
                  | refine cw_block ?_
                  | refine cw_skip ?_
                  | refine cw_region ?_
                  | refine cw_exit rfl ?_
                  | refine cw_true rfl ?_
                  | refine cw_false rfl ?_)
                refine x_load rfl rfl (hpmt (c60)) rfl trivial ?_
                repeat (first
                  | refine x_move rfl rfl rfl trivial ?_
                  | refine x_assign rfl rfl rfl trivial ?_
                  | refine x_add rfl rfl rfl (wrap_i64 (by omega) (by omega)) rfl trivial ?_
                  | refine x_sub_ rfl rfl rfl (wrap_i64 (by omega) (by omega)) rfl trivial ?_
                  | refine x_sub_ rfl rfl rfl (wrap_u32 (by omega) (by omega)) rfl trivial ?_
                  | refine x_add rfl rfl rfl (wrap_u32 (by omega) (by omega)) rfl trivial ?_
                  | refine x_peqn rfl rfl rfl rfl trivial ?_
                  | refine x_pnen rfl rfl rfl rfl trivial ?_
                  | refine x_mul rfl rfl rfl (wrap_i64 (by omega) (by omega)) rfl trivial ?_
                  | refine x_ibin rfl rfl rfl rfl rfl trivial ?_
                  | refine x_neg_ rfl rfl (wrap_i64 (by omega) (by omega)) rfl trivial ?_
                  | refine x_len rfl rfl (by assumption) rfl trivial ?_
                  | refine x_pick_t rfl rfl rfl rfl trivial ?_
                  | refine x_pick_f rfl rfl rfl rfl trivial ?_
                  | refine x_not rfl rfl rfl trivial ?_
                  | refine x_beq rfl rfl rfl rfl trivial ?_
                  | refine x_bne rfl rfl rfl rfl trivial ?_
                  | refine x_extract rfl rfl rfl rfl trivial ?_
                  | refine x_nilCheck rfl rfl rfl trivial ?_
                  | refine x_fieldAddr rfl rfl rfl rfl trivial ?_
                  | refine x_skip trivial rfl rfl rfl ?_
                  | refine x_indexAddr1 rfl rfl rfl (by assumption) (by omega) (by omega) rfl trivial ?_
                  | refine x_indexAddr rfl rfl rfl (by assumption) (by omega) (by omega) rfl trivial ?_
                  | refine x_nil ?_
                  | refine cw_seq ?_
                  | refine nw_seq ?_
                  | refine nw_block ?_
                  | refine cw_block ?_
                  | refine cw_skip ?_
                  | refine cw_region ?_
                  | refine cw_exit rfl ?_
                  | refine cw_true rfl ?_
                  | refine cw_false rfl ?_)
                refine x_load rfl rfl (hpmt (c62)) rfl trivial ?_
                repeat (first
                  | refine x_move rfl rfl rfl trivial ?_
                  | refine x_assign rfl rfl rfl trivial ?_
                  | refine x_add rfl rfl rfl (wrap_i64 (by omega) (by omega)) rfl trivial ?_
                  | refine x_sub_ rfl rfl rfl (wrap_i64 (by omega) (by omega)) rfl trivial ?_
                  | refine x_sub_ rfl rfl rfl (wrap_u32 (by omega) (by omega)) rfl trivial ?_
                  | refine x_add rfl rfl rfl (wrap_u32 (by omega) (by omega)) rfl trivial ?_
                  | refine x_peqn rfl rfl rfl rfl trivial ?_
                  | refine x_pnen rfl rfl rfl rfl trivial ?_
                  | refine x_mul rfl rfl rfl (wrap_i64 (by omega) (by omega)) rfl trivial ?_
                  | refine x_ibin rfl rfl rfl rfl rfl trivial ?_
                  | refine x_neg_ rfl rfl (wrap_i64 (by omega) (by omega)) rfl trivial ?_
                  | refine x_len rfl rfl (by assumption) rfl trivial ?_
                  | refine x_pick_t rfl rfl rfl rfl trivial ?_
                  | refine x_pick_f rfl rfl rfl rfl trivial ?_
                  | refine x_not rfl rfl rfl trivial ?_
                  | refine x_beq rfl rfl rfl rfl trivial ?_
                  | refine x_bne rfl rfl rfl rfl trivial ?_
                  | refine x_extract rfl rfl rfl rfl trivial ?_
                  | refine x_nilCheck rfl rfl rfl trivial ?_
                  | refine x_fieldAddr rfl rfl rfl rfl trivial ?_
                  | refine x_skip trivial rfl rfl rfl ?_
                  | refine x_indexAddr1 rfl rfl rfl (by assumption) (by omega) (by omega) rfl trivial ?_
                  | refine x_indexAddr rfl rfl rfl (by assumption) (by omega) (by omega) rfl trivial ?_
                  | refine x_nil ?_
                  | refine cw_seq ?_
                  | refine nw_seq ?_
                  | refine nw_block ?_
                  | refine cw_block ?_
                  | refine cw_skip ?_
                  | refine cw_region ?_
                  | refine cw_exit rfl ?_
                  | refine cw_true rfl ?_
                  | refine cw_false rfl ?_)
                refine x_load rfl rfl (hpmt (hc0)) rfl trivial ?_
                repeat (first
                  | refine x_move rfl rfl rfl trivial ?_
                  | refine x_assign rfl rfl rfl trivial ?_
                  | refine x_add rfl rfl rfl (wrap_i64 (by omega) (by omega)) rfl trivial ?_
                  | refine x_sub_ rfl rfl rfl (wrap_i64 (by omega) (by omega)) rfl trivial ?_
                  | refine x_sub_ rfl rfl rfl (wrap_u32 (by omega) (by omega)) rfl trivial ?_
                  | refine x_add rfl rfl rfl (wrap_u32 (by omega) (by omega)) rfl trivial ?_
                  | refine x_peqn rfl rfl rfl rfl trivial ?_
                  | refine x_pnen rfl rfl rfl rfl trivial ?_
                  | refine x_mul rfl rfl rfl (wrap_i64 (by omega) (by omega)) rfl trivial ?_
                  | refine x_ibin rfl rfl rfl rfl rfl trivial ?_
                  | refine x_neg_ rfl rfl (wrap_i64 (by omega) (by omega)) rfl trivial ?_
                  | refine x_len rfl rfl (by assumption) rfl trivial ?_
                  | refine x_pick_t rfl rfl rfl rfl trivial ?_
                  | refine x_pick_f rfl rfl rfl rfl trivial ?_
                  | refine x_not rfl rfl rfl trivial ?_
                  | refine x_beq rfl rfl rfl rfl trivial ?_
                  | refine x_bne rfl rfl rfl rfl trivial ?_
                  | refine x_extract rfl rfl rfl rfl trivial ?_
                  | refine x_nilCheck rfl rfl rfl trivial ?_
                  | refine x_fieldAddr rfl rfl rfl rfl trivial ?_
                  | refine x_skip trivial rfl rfl rfl ?_
                  | refine x_indexAddr1 rfl rfl rfl (by assumption) (by omega) (by omega) rfl trivial ?_
                  | refine x_indexAddr rfl rfl rfl (by assumption) (by omega) (by omega) rfl trivial ?_
                  | refine x_nil ?_
                  | refine cw_seq ?_
                  | refine nw_seq ?_
                  | refine nw_block ?_
                  | refine cw_block ?_
                  | refine cw_skip ?_
                  | refine cw_region ?_
                  | refine cw_exit rfl ?_
                  | refine cw_true rfl ?_
                  | refine cw_false rfl ?_)
                exact nw_meet bs.length (by repeat (first | exact True.intro | refine ⟨rfl, ?_⟩)) ⟨e.symm, rfl⟩
              · have e : sizeA p' h = 0 := by unfold sizeA; rw [h0]; rfl
                repeat (first
                  | refine x_move rfl rfl rfl trivial ?_
                  | refine x_assign rfl rfl rfl trivial ?_
                  | refine x_add rfl rfl rfl (wrap_i64 (by omega) (by omega)) rfl trivial ?_
                  | refine x_sub_ rfl rfl rfl (wrap_i64 (by omega) (by omega)) rfl trivial ?_
                  | refine x_sub_ rfl rfl rfl (wrap_u32 (by omega) (by omega)) rfl trivial ?_
                  | refine x_add rfl rfl rfl (wrap_u32 (by omega) (by omega)) rfl trivial ?_
                  | refine x_peqn rfl rfl rfl rfl trivial ?_
                  | refine x_pnen rfl rfl rfl rfl trivial ?_
                  | refine x_mul rfl rfl rfl (wrap_i64 (by omega) (by omega)) rfl trivial ?_
                  | refine x_ibin rfl rfl rfl rfl rfl trivial ?_
                  | refine x_neg_ rfl rfl (wrap_i64 (by omega) (by omega)) rfl trivial ?_
                  | refine x_len rfl rfl (by assumption) rfl trivial ?_
                  | refine x_pick_t rfl rfl rfl rfl trivial ?_
                  | refine x_pick_f rfl rfl rfl rfl trivial ?_
                  | refine x_not rfl rfl rfl trivial ?_
                  | refine x_beq rfl rfl rfl rfl trivial ?_
                  | refine x_bne rfl rfl rfl rfl trivial ?_
                  | refine x_extract rfl rfl rfl rfl trivial ?_
                  | refine x_nilCheck rfl rfl rfl trivial ?_
                  | refine x_fieldAddr rfl rfl rfl rfl trivial ?_
                  | refine x_skip trivial rfl rfl rfl ?_
                  | refine x_indexAddr1 rfl rfl rfl (by assumption) (by omega) (by omega) rfl trivial ?_
                  | refine x_indexAddr rfl rfl rfl (by assumption) (by omega) (by omega) rfl trivial ?_
                  | refine x_nil ?_
                  | refine cw_seq ?_
                  | refine nw_seq ?_
                  | refine nw_block ?_
                  | refine cw_block ?_
                  | refine cw_skip ?_
                  | refine cw_region ?_
                  | refine cw_exit rfl ?_
                  | refine cw_true rfl ?_
                  | refine cw_false rfl ?_)
                exact nw_meet 0 (by repeat (first | exact True.intro | refine ⟨rfl, ?_⟩)) ⟨e.symm, rfl⟩
            rintro _ _ ⟨rfl, rfl⟩
            repeat (first
              | refine x_move rfl rfl rfl trivial ?_
              | refine x_assign rfl rfl rfl trivial ?_
              | refine x_add rfl rfl rfl (wrap_i64 (by omega) (by omega)) rfl trivial ?_
              | refine x_sub_ rfl rfl rfl (wrap_i64 (by omega) (by omega)) rfl trivial ?_
              | refine x_sub_ rfl rfl rfl (wrap_u32 (by omega) (by omega)) rfl trivial ?_
              | refine x_add rfl rfl rfl (wrap_u32 (by omega) (by omega)) rfl trivial ?_
              | refine x_peqn rfl rfl rfl rfl trivial ?_
              | refine x_pnen rfl rfl rfl rfl trivial ?_
              | refine x_mul rfl rfl rfl (wrap_i64 (by omega) (by omega)) rfl trivial ?_
              | refine x_ibin rfl rfl rfl rfl rfl trivial ?_
              | refine x_neg_ rfl rfl (wrap_i64 (by omega) (by omega)) rfl trivial ?_
              | refine x_len rfl rfl (by assumption) rfl trivial ?_
              | refine x_pick_t rfl rfl rfl rfl trivial ?_
              | refine x_pick_f rfl rfl rfl rfl trivial ?_
              | refine x_not rfl rfl rfl trivial ?_
              | refine x_beq rfl rfl rfl rfl trivial ?_
              | refine x_bne rfl rfl rfl rfl trivial ?_
              | refine x_extract rfl rfl rfl rfl trivial ?_
              | refine x_nilCheck rfl rfl rfl trivial ?_
              | refine x_fieldAddr rfl rfl rfl rfl trivial ?_
              | refine x_skip trivial rfl rfl rfl ?_
              | refine x_indexAddr1 rfl rfl rfl (by assumption) (by omega) (by omega) rfl trivial ?_
              | refine x_indexAddr rfl rfl rfl (by assumption) (by omega) (by omega) rfl trivial ?_
              | refine x_nil ?_
              | refine cw_seq ?_
              | refine nw_seq ?_
              | refine nw_block ?_
              | refine cw_block ?_
              | refine cw_skip ?_
              | refine cw_region ?_
              | refine cw_exit rfl ?_
              | refine cw_true rfl ?_
              | refine cw_false rfl ?_)
            refine x_load rfl rfl (hpmt (c62)) rfl trivial ?_
            refine x_call rfl rfl rfl trivial (arena_Size hS6 hh (by omega)) ?_
            rintro _ _ ⟨rfl, rfl⟩
            refine ⟨trivial, ?_⟩
            repeat (first
              | refine x_move rfl rfl rfl trivial ?_
              | refine x_assign rfl rfl rfl trivial ?_
              | refine x_add rfl rfl rfl (wrap_i64 (by omega) (by omega)) rfl trivial ?_
              | refine x_sub_ rfl rfl rfl (wrap_i64 (by omega) (by omega)) rfl trivial ?_
              | refine x_sub_ rfl rfl rfl (wrap_u32 (by omega) (by omega)) rfl trivial ?_
              | refine x_add rfl rfl rfl (wrap_u32 (by omega) (by omega)) rfl trivial ?_
              | refine x_peqn rfl rfl rfl rfl trivial ?_
              | refine x_pnen rfl rfl rfl rfl trivial ?_
              | refine x_mul rfl rfl rfl (wrap_i64 (by omega) (by omega)) rfl trivial ?_
              | refine x_ibin rfl rfl rfl rfl rfl trivial ?_
              | refine x_neg_ rfl rfl (wrap_i64 (by omega) (by omega)) rfl trivial ?_
              | refine x_len rfl rfl (by assumption) rfl trivial ?_
              | refine x_pick_t rfl rfl rfl rfl trivial ?_
              | refine x_pick_f rfl rfl rfl rfl trivial ?_
              | refine x_not rfl rfl rfl trivial ?_
              | refine x_beq rfl rfl rfl rfl trivial ?_
              | refine x_bne rfl rfl rfl rfl trivial ?_
              | refine x_extract rfl rfl rfl rfl trivial ?_
              | refine x_nilCheck rfl rfl rfl trivial ?_
              | refine x_fieldAddr rfl rfl rfl rfl trivial ?_
              | refine x_skip trivial rfl rfl rfl ?_
              | refine x_indexAddr1 rfl rfl rfl (by assumption) (by omega) (by omega) rfl trivial ?_
              | refine x_indexAddr rfl rfl rfl (by assumption) (by omega) (by omega) rfl trivial ?_
              | refine x_nil ?_
              | refine cw_seq ?_
              | refine nw_seq ?_
              | refine nw_block ?_
              | refine cw_block ?_
              | refine cw_skip ?_
              | refine cw_region ?_
              | refine cw_exit rfl ?_
              | refine cw_true rfl ?_
              | refine cw_false rfl ?_)
            refine x_false 177 rfl (by simp) ?_
            repeat (first
              | refine x_move rfl rfl rfl trivial ?_
              | refine x_assign rfl rfl rfl trivial ?_
              | refine x_add rfl rfl rfl (wrap_i64 (by omega) (by omega)) rfl trivial ?_
              | refine x_sub_ rfl rfl rfl (wrap_i64 (by omega) (by omega)) rfl trivial ?_
              | refine x_sub_ rfl rfl rfl (wrap_u32 (by omega) (by omega)) rfl trivial ?_
              | refine x_add rfl rfl rfl (wrap_u32 (by omega) (by omega)) rfl trivial ?_
              | refine x_peqn rfl rfl rfl rfl trivial ?_
              | refine x_pnen rfl rfl rfl rfl trivial ?_
              | refine x_mul rfl rfl rfl (wrap_i64 (by omega) (by omega)) rfl trivial ?_
              | refine x_ibin rfl rfl rfl rfl rfl trivial ?_
              | refine x_neg_ rfl rfl (wrap_i64 (by omega) (by omega)) rfl trivial ?_
              | refine x_len rfl rfl (by assumption) rfl trivial ?_
              | refine x_pick_t rfl rfl rfl rfl trivial ?_
              | refine x_pick_f rfl rfl rfl rfl trivial ?_
              | refine x_not rfl rfl rfl trivial ?_
              | refine x_beq rfl rfl rfl rfl trivial ?_
              | refine x_bne rfl rfl rfl rfl trivial ?_
              | refine x_extract rfl rfl rfl rfl trivial ?_
              | refine x_nilCheck rfl rfl rfl trivial ?_
              | refine x_fieldAddr rfl rfl rfl rfl trivial ?_
              | refine x_skip trivial rfl rfl rfl ?_
              | refine x_indexAddr1 rfl rfl rfl (by assumption) (by omega) (by omega) rfl trivial ?_
              | refine x_indexAddr rfl rfl rfl (by assumption) (by omega) (by omega) rfl trivial ?_
              | refine x_nil ?_
              | refine cw_seq ?_
              | refine nw_seq ?_
              | refine nw_block ?_
              | refine cw_block ?_
              | refine cw_skip ?_
              | refine cw_region ?_
              | refine cw_exit rfl ?_
              | refine cw_true rfl ?_
              | refine cw_false rfl ?_)
            refine x_call rfl rfl rfl trivial (arena_Live hS6 (by omega) (by omega)) ?_
            rintro _ _ ⟨rfl, rfl⟩
            refine ⟨trivial, ?_⟩
            repeat (first
              | refine x_move rfl rfl rfl trivial ?_
              | refine x_assign rfl rfl rfl trivial ?_
              | refine x_add rfl rfl rfl (wrap_i64 (by omega) (by omega)) rfl trivial ?_
              | refine x_sub_ rfl rfl rfl (wrap_i64 (by omega) (by omega)) rfl trivial ?_
              | refine x_sub_ rfl rfl rfl (wrap_u32 (by omega) (by omega)) rfl trivial ?_
              | refine x_add rfl rfl rfl (wrap_u32 (by omega) (by omega)) rfl trivial ?_
              | refine x_peqn rfl rfl rfl rfl trivial ?_
              | refine x_pnen rfl rfl rfl rfl trivial ?_
              | refine x_mul rfl rfl rfl (wrap_i64 (by omega) (by omega)) rfl trivial ?_
              | refine x_ibin rfl rfl rfl rfl rfl trivial ?_
              | refine x_neg_ rfl rfl (wrap_i64 (by omega) (by omega)) rfl trivial ?_
              | refine x_len rfl rfl (by assumption) rfl trivial ?_
              | refine x_pick_t rfl rfl rfl rfl trivial ?_
              | refine x_pick_f rfl rfl rfl rfl trivial ?_
              | refine x_not rfl rfl rfl trivial ?_
              | refine x_beq rfl rfl rfl rfl trivial ?_
              | refine x_bne rfl rfl rfl rfl trivial ?_
              | refine x_extract rfl rfl rfl rfl trivial ?_
              | refine x_nilCheck rfl rfl rfl trivial ?_
              | refine x_fieldAddr rfl rfl rfl rfl trivial ?_
              | refine x_skip trivial rfl rfl rfl ?_
              | refine x_indexAddr1 rfl rfl rfl (by assumption) (by omega) (by omega) rfl trivial ?_
              | refine x_indexAddr rfl rfl rfl (by assumption) (by omega) (by omega) rfl trivial ?_
              | refine x_nil ?_
              | refine cw_seq ?_
              | refine nw_seq ?_
              | refine nw_block ?_
              | refine cw_block ?_
              | refine cw_skip ?_
              | refine cw_region ?_
              | refine cw_exit rfl ?_
              | refine cw_true rfl ?_
              | refine cw_false rfl ?_)
            refine x_call rfl rfl rfl trivial (ref5_Live hQ6 (by omega) (by omega)) ?_
            rintro _ _ ⟨rfl, rfl⟩
            refine ⟨trivial, ?_⟩
            repeat (first
              | refine x_move rfl rfl rfl trivial ?_
              | refine x_assign rfl rfl rfl trivial ?_
              | refine x_add rfl rfl rfl (wrap_i64 (by omega) (by omega)) rfl trivial ?_
              | refine x_sub_ rfl rfl rfl (wrap_i64 (by omega) (by omega)) rfl trivial ?_
              | refine x_sub_ rfl rfl rfl (wrap_u32 (by omega) (by omega)) rfl trivial ?_
              | refine x_add rfl rfl rfl (wrap_u32 (by omega) (by omega)) rfl trivial ?_
              | refine x_peqn rfl rfl rfl rfl trivial ?_
              | refine x_pnen rfl rfl rfl rfl trivial ?_
              | refine x_mul rfl rfl rfl (wrap_i64 (by omega) (by omega)) rfl trivial ?_
              | refine x_ibin rfl rfl rfl rfl rfl trivial ?_
              | refine x_neg_ rfl rfl (wrap_i64 (by omega) (by omega)) rfl trivial ?_
              | refine x_len rfl rfl (by assumption) rfl trivial ?_
              | refine x_pick_t rfl rfl rfl rfl trivial ?_
              | refine x_pick_f rfl rfl rfl rfl trivial ?_
              | refine x_not rfl rfl rfl trivial ?_
              | refine x_beq rfl rfl rfl rfl trivial ?_
              | refine x_bne rfl rfl rfl rfl trivial ?_
              | refine x_extract rfl rfl rfl rfl trivial ?_
              | refine x_nilCheck rfl rfl rfl trivial ?_
              | refine x_fieldAddr rfl rfl rfl rfl trivial ?_
              | refine x_skip trivial rfl rfl rfl ?_
              | refine x_indexAddr1 rfl rfl rfl (by assumption) (by omega) (by omega) rfl trivial ?_
              | refine x_indexAddr rfl rfl rfl (by assumption) (by omega) (by omega) rfl trivial ?_
              | refine x_nil ?_
              | refine cw_seq ?_
              | refine nw_seq ?_
              | refine nw_block ?_
              | refine cw_block ?_
              | refine cw_skip ?_
              | refine cw_region ?_
              | refine cw_exit rfl ?_
              | refine cw_true rfl ?_
              | refine cw_false rfl ?_)
            refine x_false 184 rfl (by simp) ?_
            repeat (first
              | refine x_move rfl rfl rfl trivial ?_
              | refine x_assign rfl rfl rfl trivial ?_
              | refine x_add rfl rfl rfl (wrap_i64 (by omega) (by omega)) rfl trivial ?_
              | refine x_sub_ rfl rfl rfl (wrap_i64 (by omega) (by omega)) rfl trivial ?_
              | refine x_sub_ rfl rfl rfl (wrap_u32 (by omega) (by omega)) rfl trivial ?_
              | refine x_add rfl rfl rfl (wrap_u32 (by omega) (by omega)) rfl trivial ?_
              | refine x_peqn rfl rfl rfl rfl trivial ?_
              | refine x_pnen rfl rfl rfl rfl trivial ?_
              | refine x_mul rfl rfl rfl (wrap_i64 (by omega) (by omega)) rfl trivial ?_
              | refine x_ibin rfl rfl rfl rfl rfl trivial ?_
              | refine x_neg_ rfl rfl (wrap_i64 (by omega) (by omega)) rfl trivial ?_
              | refine x_len rfl rfl (by assumption) rfl trivial ?_
              | refine x_pick_t rfl rfl rfl rfl trivial ?_
              | refine x_pick_f rfl rfl rfl rfl trivial ?_
              | refine x_not rfl rfl rfl trivial ?_
              | refine x_beq rfl rfl rfl rfl trivial ?_
              | refine x_bne rfl rfl rfl rfl trivial ?_
              | refine x_extract rfl rfl rfl rfl trivial ?_
              | refine x_nilCheck rfl rfl rfl trivial ?_
              | refine x_fieldAddr rfl rfl rfl rfl trivial ?_
              | refine x_skip trivial rfl rfl rfl ?_
              | refine x_indexAddr1 rfl rfl rfl (by assumption) (by omega) (by omega) rfl trivial ?_
              | refine x_indexAddr rfl rfl rfl (by assumption) (by omega) (by omega) rfl trivial ?_
              | refine x_nil ?_
              | refine cw_seq ?_
              | refine nw_seq ?_
              | refine nw_block ?_
              | refine cw_block ?_
              | refine cw_skip ?_
              | refine cw_region ?_
              | refine cw_exit rfl ?_
              | refine cw_true rfl ?_
              | refine cw_false rfl ?_)
            refine x_call rfl rfl rfl trivial (arena_Free hS6 hw6 (by omega) (by omega)) ?_
            rintro _ _ ⟨rfl, rfl⟩
            refine ⟨trivial, ?_⟩
            repeat (first
              | refine x_move rfl rfl rfl trivial ?_
              | refine x_assign rfl rfl rfl trivial ?_
              | refine x_add rfl rfl rfl (wrap_i64 (by omega) (by omega)) rfl trivial ?_
              | refine x_sub_ rfl rfl rfl (wrap_i64 (by omega) (by omega)) rfl trivial ?_
              | refine x_sub_ rfl rfl rfl (wrap_u32 (by omega) (by omega)) rfl trivial ?_
              | refine x_add rfl rfl rfl (wrap_u32 (by omega) (by omega)) rfl trivial ?_
              | refine x_peqn rfl rfl rfl rfl trivial ?_
              | refine x_pnen rfl rfl rfl rfl trivial ?_
              | refine x_mul rfl rfl rfl (wrap_i64 (by omega) (by omega)) rfl trivial ?_
              | refine x_ibin rfl rfl rfl rfl rfl trivial ?_
              | refine x_neg_ rfl rfl (wrap_i64 (by omega) (by omega)) rfl trivial ?_
              | refine x_len rfl rfl (by assumption) rfl trivial ?_
              | refine x_pick_t rfl rfl rfl rfl trivial ?_
              | refine x_pick_f rfl rfl rfl rfl trivial ?_
              | refine x_not rfl rfl rfl trivial ?_
              | refine x_beq rfl rfl rfl rfl trivial ?_
              | refine x_bne rfl rfl rfl rfl trivial ?_
              | refine x_extract rfl rfl rfl rfl trivial ?_
              | refine x_nilCheck rfl rfl rfl trivial ?_
              | refine x_fieldAddr rfl rfl rfl rfl trivial ?_
              | refine x_skip trivial rfl rfl rfl ?_
              | refine x_indexAddr1 rfl rfl rfl (by assumption) (by omega) (by omega) rfl trivial ?_
              | refine x_indexAddr rfl rfl rfl (by assumption) (by omega) (by omega) rfl trivial ?_
              | refine x_nil ?_
              | refine cw_seq ?_
              | refine nw_seq ?_
              | refine nw_block ?_
              | refine cw_block ?_
              | refine cw_skip ?_
              | refine cw_region ?_
              | refine cw_exit rfl ?_
              | refine cw_true rfl ?_
              | refine cw_false rfl ?_)
            refine x_call rfl rfl rfl trivial (ref5_Live hQ6 (by omega) (by omega)) ?_
            rintro _ _ ⟨rfl, rfl⟩
            refine ⟨trivial, ?_⟩
            repeat (first
              | refine x_move rfl rfl rfl trivial ?_
              | refine x_assign rfl rfl rfl trivial ?_
              | refine x_add rfl rfl rfl (wrap_i64 (by omega) (by omega)) rfl trivial ?_
              | refine x_sub_ rfl rfl rfl (wrap_i64 (by omega) (by omega)) rfl trivial ?_
              | refine x_sub_ rfl rfl rfl (wrap_u32 (by omega) (by omega)) rfl trivial ?_
              | refine x_add rfl rfl rfl (wrap_u32 (by omega) (by omega)) rfl trivial ?_
              | refine x_peqn rfl rfl rfl rfl trivial ?_
              | refine x_pnen rfl rfl rfl rfl trivial ?_
              | refine x_mul rfl rfl rfl (wrap_i64 (by omega) (by omega)) rfl trivial ?_
              | refine x_ibin rfl rfl rfl rfl rfl trivial ?_
              | refine x_neg_ rfl rfl (wrap_i64 (by omega) (by omega)) rfl trivial ?_
              | refine x_len rfl rfl (by assumption) rfl trivial ?_
              | refine x_pick_t rfl rfl rfl rfl trivial ?_
              | refine x_pick_f rfl rfl rfl rfl trivial ?_
              | refine x_not rfl rfl rfl trivial ?_
              | refine x_beq rfl rfl rfl rfl trivial ?_
              | refine x_bne rfl rfl rfl rfl trivial ?_
              | refine x_extract rfl rfl rfl rfl trivial ?_
              | refine x_nilCheck rfl rfl rfl trivial ?_
              | refine x_fieldAddr rfl rfl rfl rfl trivial ?_
              | refine x_skip trivial rfl rfl rfl ?_
              | refine x_indexAddr1 rfl rfl rfl (by assumption) (by omega) (by omega) rfl trivial ?_
              | refine x_indexAddr rfl rfl rfl (by assumption) (by omega) (by omega) rfl trivial ?_
              | refine x_nil ?_
              | refine cw_seq ?_
              | refine nw_seq ?_
              | refine nw_block ?_
              | refine cw_block ?_
              | refine cw_skip ?_
              | refine cw_region ?_
              | refine cw_exit rfl ?_
              | refine cw_true rfl ?_
              | refine cw_false rfl ?_)
            refine x_false 193 rfl (by simp [hpm6]) ?_
            repeat (first
              | refine x_move rfl rfl rfl trivial ?_
              | refine x_assign rfl rfl rfl trivial ?_
              | refine x_add rfl rfl rfl (wrap_i64 (by omega) (by omega)) rfl trivial ?_
              | refine x_sub_ rfl rfl rfl (wrap_i64 (by omega) (by omega)) rfl trivial ?_
              | refine x_sub_ rfl rfl rfl (wrap_u32 (by omega) (by omega)) rfl trivial ?_
              | refine x_add rfl rfl rfl (wrap_u32 (by omega) (by omega)) rfl trivial ?_
              | refine x_peqn rfl rfl rfl rfl trivial ?_
              | refine x_pnen rfl rfl rfl rfl trivial ?_
              | refine x_mul rfl rfl rfl (wrap_i64 (by omega) (by omega)) rfl trivial ?_
              | refine x_ibin rfl rfl rfl rfl rfl trivial ?_
              | refine x_neg_ rfl rfl (wrap_i64 (by omega) (by omega)) rfl trivial ?_
              | refine x_len rfl rfl (by assumption) rfl trivial ?_
              | refine x_pick_t rfl rfl rfl rfl trivial ?_
              | refine x_pick_f rfl rfl rfl rfl trivial ?_
              | refine x_not rfl rfl rfl trivial ?_
              | refine x_beq rfl rfl rfl rfl trivial ?_
              | refine x_bne rfl rfl rfl rfl trivial ?_
              | refine x_extract rfl rfl rfl rfl trivial ?_
              | refine x_nilCheck rfl rfl rfl trivial ?_
              | refine x_fieldAddr rfl rfl rfl rfl trivial ?_
              | refine x_skip trivial rfl rfl rfl ?_
              | refine x_indexAddr1 rfl rfl rfl (by assumption) (by omega) (by omega) rfl trivial ?_
              | refine x_indexAddr rfl rfl rfl (by assumption) (by omega) (by omega) rfl trivial ?_
              | refine x_nil ?_
              | refine cw_seq ?_
              | refine nw_seq ?_
              | refine nw_block ?_
              | refine cw_block ?_
              | refine cw_skip ?_
              | refine cw_region ?_
              | refine cw_exit rfl ?_
              | refine cw_true rfl ?_
              | refine cw_false rfl ?_)
            refine x_call rfl rfl rfl trivial (arena_Handles hS6 (by omega)) ?_
            rintro u1 H7 ⟨hk7, hu1, _⟩
            refine ⟨trivial, ?_⟩
            repeat (first
              | refine x_move rfl rfl rfl trivial ?_
              | refine x_assign rfl rfl rfl trivial ?_
              | refine x_add rfl rfl rfl (wrap_i64 (by omega) (by omega)) rfl trivial ?_
              | refine x_sub_ rfl rfl rfl (wrap_i64 (by omega) (by omega)) rfl trivial ?_
              | refine x_sub_ rfl rfl rfl (wrap_u32 (by omega) (by omega)) rfl trivial ?_
              | refine x_add rfl rfl rfl (wrap_u32 (by omega) (by omega)) rfl trivial ?_
              | refine x_peqn rfl rfl rfl rfl trivial ?_
              | refine x_pnen rfl rfl rfl rfl trivial ?_
              | refine x_mul rfl rfl rfl (wrap_i64 (by omega) (by omega)) rfl trivial ?_
              | refine x_ibin rfl rfl rfl rfl rfl trivial ?_
              | refine x_neg_ rfl rfl (wrap_i64 (by omega) (by omega)) rfl trivial ?_
              | refine x_len rfl rfl (by assumption) rfl trivial ?_
              | refine x_pick_t rfl rfl rfl rfl trivial ?_
              | refine x_pick_f rfl rfl rfl rfl trivial ?_
              | refine x_not rfl rfl rfl trivial ?_
              | refine x_beq rfl rfl rfl rfl trivial ?_
              | refine x_bne rfl rfl rfl rfl trivial ?_
              | refine x_extract rfl rfl rfl rfl trivial ?_
              | refine x_nilCheck rfl rfl rfl trivial ?_
              | refine x_fieldAddr rfl rfl rfl rfl trivial ?_
              | refine x_skip trivial rfl rfl rfl ?_
              | refine x_indexAddr1 rfl rfl rfl (by assumption) (by omega) (by omega) rfl trivial ?_
              | refine x_indexAddr rfl rfl rfl (by assumption) (by omega) (by omega) rfl trivial ?_
              | refine x_nil ?_
              | refine cw_seq ?_
              | refine nw_seq ?_
              | refine nw_block ?_
              | refine cw_block ?_
              | refine cw_skip ?_
              | refine cw_region ?_
              | refine cw_exit rfl ?_
              | refine cw_true rfl ?_
              | refine cw_false rfl ?_)
            refine x_call rfl rfl rfl trivial (ref5_Handles (hQ6.keepN hk7) (by omega)) ?_
            rintro u2 H8 ⟨hk8, hu2, _⟩
            refine ⟨trivial, ?_⟩
            have hbd := hdl_bd p'
            repeat (first
              | refine x_move rfl rfl rfl trivial ?_
              | refine x_assign rfl rfl rfl trivial ?_
              | refine x_add rfl rfl rfl (wrap_i64 (by omega) (by omega)) rfl trivial ?_
              | refine x_sub_ rfl rfl rfl (wrap_i64 (by omega) (by omega)) rfl trivial ?_
              | refine x_sub_ rfl rfl rfl (wrap_u32 (by omega) (by omega)) rfl trivial ?_
              | refine x_add rfl rfl rfl (wrap_u32 (by omega) (by omega)) rfl trivial ?_
              | refine x_peqn rfl rfl rfl rfl trivial ?_
              | refine x_pnen rfl rfl rfl rfl trivial ?_
              | refine x_mul rfl rfl rfl (wrap_i64 (by omega) (by omega)) rfl trivial ?_
              | refine x_ibin rfl rfl rfl rfl rfl trivial ?_
              | refine x_neg_ rfl rfl (wrap_i64 (by omega) (by omega)) rfl trivial ?_
              | refine x_len rfl rfl (by assumption) rfl trivial ?_
              | refine x_pick_t rfl rfl rfl rfl trivial ?_
              | refine x_pick_f rfl rfl rfl rfl trivial ?_
              | refine x_not rfl rfl rfl trivial ?_
              | refine x_beq rfl rfl rfl rfl trivial ?_
              | refine x_bne rfl rfl rfl rfl trivial ?_
              | refine x_extract rfl rfl rfl rfl trivial ?_
              | refine x_nilCheck rfl rfl rfl trivial ?_
              | refine x_fieldAddr rfl rfl rfl rfl trivial ?_
              | refine x_skip trivial rfl rfl rfl ?_
              | refine x_indexAddr1 rfl rfl rfl (by assumption) (by omega) (by omega) rfl trivial ?_
              | refine x_indexAddr rfl rfl rfl (by assumption) (by omega) (by omega) rfl trivial ?_
              | refine x_nil ?_
              | refine cw_seq ?_
              | refine nw_seq ?_
              | refine nw_block ?_
              | refine cw_block ?_
              | refine cw_skip ?_
              | refine cw_region ?_
              | refine cw_exit rfl ?_
              | refine cw_true rfl ?_
              | refine cw_false rfl ?_)
            refine x_call rfl rfl rfl trivial (law5_handles (hu1.keepN hk8).rd hu2.rd (by omega)) ?_
            rintro _ _ ⟨rfl, rfl⟩
            refine ⟨trivial, ?_⟩
            repeat (first
              | refine x_move rfl rfl rfl trivial ?_
              | refine x_assign rfl rfl rfl trivial ?_
              | refine x_add rfl rfl rfl (wrap_i64 (by omega) (by omega)) rfl trivial ?_
              | refine x_sub_ rfl rfl rfl (wrap_i64 (by omega) (by omega)) rfl trivial ?_
              | refine x_sub_ rfl rfl rfl (wrap_u32 (by omega) (by omega)) rfl trivial ?_
              | refine x_add rfl rfl rfl (wrap_u32 (by omega) (by omega)) rfl trivial ?_
              | refine x_peqn rfl rfl rfl rfl trivial ?_
              | refine x_pnen rfl rfl rfl rfl trivial ?_
              | refine x_mul rfl rfl rfl (wrap_i64 (by omega) (by omega)) rfl trivial ?_
              | refine x_ibin rfl rfl rfl rfl rfl trivial ?_
              | refine x_neg_ rfl rfl (wrap_i64 (by omega) (by omega)) rfl trivial ?_
              | refine x_len rfl rfl (by assumption) rfl trivial ?_
              | refine x_pick_t rfl rfl rfl rfl trivial ?_
              | refine x_pick_f rfl rfl rfl rfl trivial ?_
              | refine x_not rfl rfl rfl trivial ?_
              | refine x_beq rfl rfl rfl rfl trivial ?_
              | refine x_bne rfl rfl rfl rfl trivial ?_
              | refine x_extract rfl rfl rfl rfl trivial ?_
              | refine x_nilCheck rfl rfl rfl trivial ?_
              | refine x_fieldAddr rfl rfl rfl rfl trivial ?_
              | refine x_skip trivial rfl rfl rfl ?_
              | refine x_indexAddr1 rfl rfl rfl (by assumption) (by omega) (by omega) rfl trivial ?_
              | refine x_indexAddr rfl rfl rfl (by assumption) (by omega) (by omega) rfl trivial ?_
              | refine x_nil ?_
              | refine cw_seq ?_
              | refine nw_seq ?_
              | refine nw_block ?_
              | refine cw_block ?_
              | refine cw_skip ?_
              | refine cw_region ?_
              | refine cw_exit rfl ?_
              | refine cw_true rfl ?_
              | refine cw_false rfl ?_)
            have k68 := hk7.non_trans hk8
            refine nw_round (i + 1, p') (by repeat (first | exact True.intro | refine ⟨rfl, ?_⟩)) ⟨by show i + 1 ≤ _; omega, hw6, hpm6, htx6, hbk6, hk6.non_trans k68, K', G', hS6.keepN k68, hQ6.keepN k68, hKG6, hf6, hg6⟩ (by show acts.length - (i + 1) < acts.length - i; omega)
      · repeat (first
          | refine x_move rfl rfl rfl trivial ?_
          | refine x_assign rfl rfl rfl trivial ?_
          | refine x_add rfl rfl rfl (wrap_i64 (by omega) (by omega)) rfl trivial ?_
          | refine x_sub_ rfl rfl rfl (wrap_i64 (by omega) (by omega)) rfl trivial ?_
          | refine x_sub_ rfl rfl rfl (wrap_u32 (by omega) (by omega)) rfl trivial ?_
          | refine x_add rfl rfl rfl (wrap_u32 (by omega) (by omega)) rfl trivial ?_
          | refine x_peqn rfl rfl rfl rfl trivial ?_
          | refine x_pnen rfl rfl rfl rfl trivial ?_
          | refine x_mul rfl rfl rfl (wrap_i64 (by omega) (by omega)) rfl trivial ?_
          | refine x_ibin rfl rfl rfl rfl rfl trivial ?_
          | refine x_neg_ rfl rfl (wrap_i64 (by omega) (by omega)) rfl trivial ?_
          | refine x_len rfl rfl (by assumption) rfl trivial ?_
          | refine x_pick_t rfl rfl rfl rfl trivial ?_
          | refine x_pick_f rfl rfl rfl rfl trivial ?_
          | refine x_not rfl rfl rfl trivial ?_
          | refine x_beq rfl rfl rfl rfl trivial ?_
          | refine x_bne rfl rfl rfl rfl trivial ?_
          | refine x_extract rfl rfl rfl rfl trivial ?_
          | refine x_nilCheck rfl rfl rfl trivial ?_
          | refine x_fieldAddr rfl rfl rfl rfl trivial ?_
          | refine x_skip trivial rfl rfl rfl ?_
          | refine x_indexAddr1 rfl rfl rfl (by assumption) (by omega) (by omega) rfl trivial ?_
          | refine x_indexAddr rfl rfl rfl (by assumption) (by omega) (by omega) rfl trivial ?_
          | refine x_nil ?_
          | refine cw_seq ?_
          | refine nw_seq ?_
          | refine nw_block ?_
          | refine cw_block ?_
          | refine cw_skip ?_
          | refine cw_region ?_
          | refine cw_exit rfl ?_
          | refine cw_true rfl ?_
          | refine cw_false rfl ?_)
        refine x_call rfl rfl rfl trivial (awake5 _) ?_
        rintro _ Hz ⟨rfl, hkz⟩
        refine ⟨trivial, ?_⟩
        repeat (first
          | refine x_move rfl rfl rfl trivial ?_
          | refine x_assign rfl rfl rfl trivial ?_
          | refine x_add rfl rfl rfl (wrap_i64 (by omega) (by omega)) rfl trivial ?_
          | refine x_sub_ rfl rfl rfl (wrap_i64 (by omega) (by omega)) rfl trivial ?_
          | refine x_sub_ rfl rfl rfl (wrap_u32 (by omega) (by omega)) rfl trivial ?_
          | refine x_add rfl rfl rfl (wrap_u32 (by omega) (by omega)) rfl trivial ?_
          | refine x_peqn rfl rfl rfl rfl trivial ?_
          | refine x_pnen rfl rfl rfl rfl trivial ?_
          | refine x_mul rfl rfl rfl (wrap_i64 (by omega) (by omega)) rfl trivial ?_
          | refine x_ibin rfl rfl rfl rfl rfl trivial ?_
          | refine x_neg_ rfl rfl (wrap_i64 (by omega) (by omega)) rfl trivial ?_
          | refine x_len rfl rfl (by assumption) rfl trivial ?_
          | refine x_pick_t rfl rfl rfl rfl trivial ?_
          | refine x_pick_f rfl rfl rfl rfl trivial ?_
          | refine x_not rfl rfl rfl trivial ?_
          | refine x_beq rfl rfl rfl rfl trivial ?_
          | refine x_bne rfl rfl rfl rfl trivial ?_
          | refine x_extract rfl rfl rfl rfl trivial ?_
          | refine x_nilCheck rfl rfl rfl trivial ?_
          | refine x_fieldAddr rfl rfl rfl rfl trivial ?_
          | refine x_skip trivial rfl rfl rfl ?_
          | refine x_indexAddr1 rfl rfl rfl (by assumption) (by omega) (by omega) rfl trivial ?_
          | refine x_indexAddr rfl rfl rfl (by assumption) (by omega) (by omega) rfl trivial ?_
          | refine x_nil ?_
          | refine cw_seq ?_
          | refine nw_seq ?_
          | refine nw_block ?_
          | refine cw_block ?_
          | refine cw_skip ?_
          | refine cw_region ?_
          | refine cw_exit rfl ?_
          | refine cw_true rfl ?_
          | refine cw_false rfl ?_)
        exact cw_ret1 rfl rfl ⟨rfl, (hk3).non_trans hkz⟩
end Go.Proofs.Ytioaicleodjmpaa.X
