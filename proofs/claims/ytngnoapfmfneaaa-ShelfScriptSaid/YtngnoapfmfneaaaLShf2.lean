/- The statements on shelves: what is found, and eight pairs: the walks. -/
import Derived.Test.YtngnoapfmfneaaaLShf
namespace Go.Proofs.Ytngnoapfmfneaaa.X
open Go Go.Proofs
set_option linter.unusedVariables false
set_option linter.unusedSimpArgs false
set_option maxRecDepth 10000
set_option maxHeartbeats 4000000

theorem rank_self {l : List Pr} (hr : rises l = true) {i : Nat} {p : Pr} (hp : l[i]? = some p) : rank l p.1 = i ∧ there l p.1 = true ∧ getM l p.1 = some p.2 := by
  have hi := (List.getElem?_eq_some_iff.1 hp).1
  have h1 : rank l p.1 = i := rank_at (by omega) (fun j q hj hq => rises_lt hr hj hq hp) (fun q hq => by rw [hp] at hq; cases hq; rw [cmp_self]; omega)
  refine ⟨h1, ?_, ?_⟩
  · unfold there; rw [h1, hp]; simp
  · unfold getM; rw [h1, hp]; simp
theorem mem_self {l : List Pr} (hr : rises l = true) {p : Pr} (hp : p ∈ l) : there l p.1 = true ∧ getM l p.1 = some p.2 := by
  obtain ⟨i, hi⟩ := List.getElem?_of_mem hp
  exact (rank_self hr hi).2
theorem there_mem {l : List Pr} {k : Bytes} (h : there l k = true) : ∃ p ∈ l, p.1 = k := by
  obtain ⟨p, h1, h2, _⟩ := getM_there.2 h
  exact ⟨p, List.mem_of_getElem? h1, h2⟩
theorem drop_head {l : List Pr} (hr : rises l = true) {i : Nat} {p : Pr} (hp : l[i]? = some p) : dropM (l.drop i) p.1 = l.drop (i + 1) ∧ there (l.drop i) p.1 = true ∧ getM (l.drop i) p.1 = some p.2 := by
  have h0 : (l.drop i)[0]? = some p := by rw [List.getElem?_drop]; exact hp
  obtain ⟨h1, h2, h3⟩ := rank_self (rises_drop hr i) h0
  refine ⟨?_, h2, h3⟩
  unfold dropM
  rw [if_pos h2, h1]
  simp

theorem walk_ShelfFinds {va vk : Value} {l : List Pr} {k : Bytes} {H : Heap} (hA : Ps H va l) (hK : Bs H vk k) : Ret Try.prog 4 [va, vk] H (Yes H) := by
  have sKk := hK.sl
  refine ret_of Try.func4 rfl rfl rfl rfl ?_
  intro w0
  repeat (first | refine x_move rfl rfl rfl trivial ?_ | refine x_assign rfl rfl rfl trivial ?_ | refine x_add rfl rfl rfl (wrap_i64 (by omega) (by omega)) rfl trivial ?_ | refine x_sub_ rfl rfl rfl (wrap_i64 (by omega) (by omega)) rfl trivial ?_ | refine x_peqn rfl rfl rfl rfl trivial ?_ | refine x_ibin rfl rfl rfl rfl rfl trivial ?_ | refine x_len rfl rfl (by assumption) rfl trivial ?_ | refine x_pick_t rfl rfl rfl rfl trivial ?_ | refine x_pick_f rfl rfl rfl rfl trivial ?_ | refine x_not rfl rfl rfl trivial ?_ | refine x_extract rfl rfl rfl rfl trivial ?_ | refine x_nilCheck rfl rfl rfl trivial ?_ | refine x_fieldAddr rfl rfl rfl rfl trivial ?_ | refine x_skip trivial rfl rfl rfl ?_ | refine x_indexAddr1 rfl rfl rfl (by assumption) (by omega) (by omega) rfl trivial ?_ | refine x_indexAddr rfl rfl rfl (by assumption) (by omega) (by omega) rfl trivial ?_ | refine x_nil ?_ | refine cw_seq ?_ | refine nw_seq ?_ | refine nw_block ?_ | refine cw_block ?_ | refine cw_skip ?_ | refine cw_region ?_ | refine cw_exit rfl ?_ | refine cw_true rfl ?_ | refine cw_false rfl ?_)
  refine x_call rfl rfl rfl trivial (law_GreatPairs 8 20 (by omega) hA) ?_
  rintro _ _ ⟨rfl, b1, rfl, h1⟩
  refine ⟨trivial, ?_⟩
  repeat (first | refine x_move rfl rfl rfl trivial ?_ | refine x_assign rfl rfl rfl trivial ?_ | refine x_add rfl rfl rfl (wrap_i64 (by omega) (by omega)) rfl trivial ?_ | refine x_sub_ rfl rfl rfl (wrap_i64 (by omega) (by omega)) rfl trivial ?_ | refine x_peqn rfl rfl rfl rfl trivial ?_ | refine x_ibin rfl rfl rfl rfl rfl trivial ?_ | refine x_len rfl rfl (by assumption) rfl trivial ?_ | refine x_pick_t rfl rfl rfl rfl trivial ?_ | refine x_pick_f rfl rfl rfl rfl trivial ?_ | refine x_not rfl rfl rfl trivial ?_ | refine x_extract rfl rfl rfl rfl trivial ?_ | refine x_nilCheck rfl rfl rfl trivial ?_ | refine x_fieldAddr rfl rfl rfl rfl trivial ?_ | refine x_skip trivial rfl rfl rfl ?_ | refine x_indexAddr1 rfl rfl rfl (by assumption) (by omega) (by omega) rfl trivial ?_ | refine x_indexAddr rfl rfl rfl (by assumption) (by omega) (by omega) rfl trivial ?_ | refine x_nil ?_ | refine cw_seq ?_ | refine nw_seq ?_ | refine nw_block ?_ | refine cw_block ?_ | refine cw_skip ?_ | refine cw_region ?_ | refine cw_exit rfl ?_ | refine cw_true rfl ?_ | refine cw_false rfl ?_)
  cases b1 with
  | true =>
    repeat (first | refine x_move rfl rfl rfl trivial ?_ | refine x_assign rfl rfl rfl trivial ?_ | refine x_add rfl rfl rfl (wrap_i64 (by omega) (by omega)) rfl trivial ?_ | refine x_sub_ rfl rfl rfl (wrap_i64 (by omega) (by omega)) rfl trivial ?_ | refine x_peqn rfl rfl rfl rfl trivial ?_ | refine x_ibin rfl rfl rfl rfl rfl trivial ?_ | refine x_len rfl rfl (by assumption) rfl trivial ?_ | refine x_pick_t rfl rfl rfl rfl trivial ?_ | refine x_pick_f rfl rfl rfl rfl trivial ?_ | refine x_not rfl rfl rfl trivial ?_ | refine x_extract rfl rfl rfl rfl trivial ?_ | refine x_nilCheck rfl rfl rfl trivial ?_ | refine x_fieldAddr rfl rfl rfl rfl trivial ?_ | refine x_skip trivial rfl rfl rfl ?_ | refine x_indexAddr1 rfl rfl rfl (by assumption) (by omega) (by omega) rfl trivial ?_ | refine x_indexAddr rfl rfl rfl (by assumption) (by omega) (by omega) rfl trivial ?_ | refine x_nil ?_ | refine cw_seq ?_ | refine nw_seq ?_ | refine nw_block ?_ | refine cw_block ?_ | refine cw_skip ?_ | refine cw_region ?_ | refine cw_exit rfl ?_ | refine cw_true rfl ?_ | refine cw_false rfl ?_)
    refine x_call rfl rfl rfl trivial (awake8 _) ?_
    rintro _ Hz ⟨rfl, hkz⟩
    refine ⟨trivial, ?_⟩
    repeat (first | refine x_move rfl rfl rfl trivial ?_ | refine x_assign rfl rfl rfl trivial ?_ | refine x_add rfl rfl rfl (wrap_i64 (by omega) (by omega)) rfl trivial ?_ | refine x_sub_ rfl rfl rfl (wrap_i64 (by omega) (by omega)) rfl trivial ?_ | refine x_peqn rfl rfl rfl rfl trivial ?_ | refine x_ibin rfl rfl rfl rfl rfl trivial ?_ | refine x_len rfl rfl (by assumption) rfl trivial ?_ | refine x_pick_t rfl rfl rfl rfl trivial ?_ | refine x_pick_f rfl rfl rfl rfl trivial ?_ | refine x_not rfl rfl rfl trivial ?_ | refine x_extract rfl rfl rfl rfl trivial ?_ | refine x_nilCheck rfl rfl rfl trivial ?_ | refine x_fieldAddr rfl rfl rfl rfl trivial ?_ | refine x_skip trivial rfl rfl rfl ?_ | refine x_indexAddr1 rfl rfl rfl (by assumption) (by omega) (by omega) rfl trivial ?_ | refine x_indexAddr rfl rfl rfl (by assumption) (by omega) (by omega) rfl trivial ?_ | refine x_nil ?_ | refine cw_seq ?_ | refine nw_seq ?_ | refine nw_block ?_ | refine cw_block ?_ | refine cw_skip ?_ | refine cw_region ?_ | refine cw_exit rfl ?_ | refine cw_true rfl ?_ | refine cw_false rfl ?_)
    exact cw_ret1 rfl rfl ⟨rfl, (Keep.refl Non H).non_trans hkz⟩
  | false =>
    obtain ⟨hl, hk⟩ := h1 rfl
    repeat (first | refine x_move rfl rfl rfl trivial ?_ | refine x_assign rfl rfl rfl trivial ?_ | refine x_add rfl rfl rfl (wrap_i64 (by omega) (by omega)) rfl trivial ?_ | refine x_sub_ rfl rfl rfl (wrap_i64 (by omega) (by omega)) rfl trivial ?_ | refine x_peqn rfl rfl rfl rfl trivial ?_ | refine x_ibin rfl rfl rfl rfl rfl trivial ?_ | refine x_len rfl rfl (by assumption) rfl trivial ?_ | refine x_pick_t rfl rfl rfl rfl trivial ?_ | refine x_pick_f rfl rfl rfl rfl trivial ?_ | refine x_not rfl rfl rfl trivial ?_ | refine x_extract rfl rfl rfl rfl trivial ?_ | refine x_nilCheck rfl rfl rfl trivial ?_ | refine x_fieldAddr rfl rfl rfl rfl trivial ?_ | refine x_skip trivial rfl rfl rfl ?_ | refine x_indexAddr1 rfl rfl rfl (by assumption) (by omega) (by omega) rfl trivial ?_ | refine x_indexAddr rfl rfl rfl (by assumption) (by omega) (by omega) rfl trivial ?_ | refine x_nil ?_ | refine cw_seq ?_ | refine nw_seq ?_ | refine nw_block ?_ | refine cw_block ?_ | refine cw_skip ?_ | refine cw_region ?_ | refine cw_exit rfl ?_ | refine cw_true rfl ?_ | refine cw_false rfl ?_)
    refine cw_cond rfl (fun hkl => ?_) (fun hkl => ?_) <;> (try simp at hkl)
    · repeat (first | refine x_move rfl rfl rfl trivial ?_ | refine x_assign rfl rfl rfl trivial ?_ | refine x_add rfl rfl rfl (wrap_i64 (by omega) (by omega)) rfl trivial ?_ | refine x_sub_ rfl rfl rfl (wrap_i64 (by omega) (by omega)) rfl trivial ?_ | refine x_peqn rfl rfl rfl rfl trivial ?_ | refine x_ibin rfl rfl rfl rfl rfl trivial ?_ | refine x_len rfl rfl (by assumption) rfl trivial ?_ | refine x_pick_t rfl rfl rfl rfl trivial ?_ | refine x_pick_f rfl rfl rfl rfl trivial ?_ | refine x_not rfl rfl rfl trivial ?_ | refine x_extract rfl rfl rfl rfl trivial ?_ | refine x_nilCheck rfl rfl rfl trivial ?_ | refine x_fieldAddr rfl rfl rfl rfl trivial ?_ | refine x_skip trivial rfl rfl rfl ?_ | refine x_indexAddr1 rfl rfl rfl (by assumption) (by omega) (by omega) rfl trivial ?_ | refine x_indexAddr rfl rfl rfl (by assumption) (by omega) (by omega) rfl trivial ?_ | refine x_nil ?_ | refine cw_seq ?_ | refine nw_seq ?_ | refine nw_block ?_ | refine cw_block ?_ | refine cw_skip ?_ | refine cw_region ?_ | refine cw_exit rfl ?_ | refine cw_true rfl ?_ | refine cw_false rfl ?_)
      refine x_call rfl rfl rfl trivial (awake8 _) ?_
      rintro _ Hz ⟨rfl, hkz⟩
      refine ⟨trivial, ?_⟩
      repeat (first | refine x_move rfl rfl rfl trivial ?_ | refine x_assign rfl rfl rfl trivial ?_ | refine x_add rfl rfl rfl (wrap_i64 (by omega) (by omega)) rfl trivial ?_ | refine x_sub_ rfl rfl rfl (wrap_i64 (by omega) (by omega)) rfl trivial ?_ | refine x_peqn rfl rfl rfl rfl trivial ?_ | refine x_ibin rfl rfl rfl rfl rfl trivial ?_ | refine x_len rfl rfl (by assumption) rfl trivial ?_ | refine x_pick_t rfl rfl rfl rfl trivial ?_ | refine x_pick_f rfl rfl rfl rfl trivial ?_ | refine x_not rfl rfl rfl trivial ?_ | refine x_extract rfl rfl rfl rfl trivial ?_ | refine x_nilCheck rfl rfl rfl trivial ?_ | refine x_fieldAddr rfl rfl rfl rfl trivial ?_ | refine x_skip trivial rfl rfl rfl ?_ | refine x_indexAddr1 rfl rfl rfl (by assumption) (by omega) (by omega) rfl trivial ?_ | refine x_indexAddr rfl rfl rfl (by assumption) (by omega) (by omega) rfl trivial ?_ | refine x_nil ?_ | refine cw_seq ?_ | refine nw_seq ?_ | refine nw_block ?_ | refine cw_block ?_ | refine cw_skip ?_ | refine cw_region ?_ | refine cw_exit rfl ?_ | refine cw_true rfl ?_ | refine cw_false rfl ?_)
      exact cw_ret1 rfl rfl ⟨rfl, (Keep.refl Non H).non_trans hkz⟩
    repeat (first | refine x_move rfl rfl rfl trivial ?_ | refine x_assign rfl rfl rfl trivial ?_ | refine x_add rfl rfl rfl (wrap_i64 (by omega) (by omega)) rfl trivial ?_ | refine x_sub_ rfl rfl rfl (wrap_i64 (by omega) (by omega)) rfl trivial ?_ | refine x_peqn rfl rfl rfl rfl trivial ?_ | refine x_ibin rfl rfl rfl rfl rfl trivial ?_ | refine x_len rfl rfl (by assumption) rfl trivial ?_ | refine x_pick_t rfl rfl rfl rfl trivial ?_ | refine x_pick_f rfl rfl rfl rfl trivial ?_ | refine x_not rfl rfl rfl trivial ?_ | refine x_extract rfl rfl rfl rfl trivial ?_ | refine x_nilCheck rfl rfl rfl trivial ?_ | refine x_fieldAddr rfl rfl rfl rfl trivial ?_ | refine x_skip trivial rfl rfl rfl ?_ | refine x_indexAddr1 rfl rfl rfl (by assumption) (by omega) (by omega) rfl trivial ?_ | refine x_indexAddr rfl rfl rfl (by assumption) (by omega) (by omega) rfl trivial ?_ | refine x_nil ?_ | refine cw_seq ?_ | refine nw_seq ?_ | refine nw_block ?_ | refine cw_block ?_ | refine cw_skip ?_ | refine cw_region ?_ | refine cw_exit rfl ?_ | refine cw_true rfl ?_ | refine cw_false rfl ?_)
    refine x_call rfl rfl rfl trivial (ref_New hA (by omega) (fun p hp => by have := hk p hp; omega)) ?_
    rintro _ H1 ⟨hk1, wb, rfl, hwb, hM⟩
    refine ⟨trivial, ?_⟩
    have hwl : (newM l).length ≤ 8 := by have := newM_length l; omega
    have hwr := newM_rises l
    have hwk : ∀ p ∈ newM l, p.1.length ≤ 20 := newM_keys hk
    generalize newM l = w at *
    obtain ⟨u, hBu, hPu⟩ := hM.row
    have cu : cel H1 wb 0 = some u := by rw [hBu.cel]; rfl
    have hK1 := hK.keepN hk1
    have sU := hPu.sl
    have cU := sU.cap
    repeat (first | refine x_move rfl rfl rfl trivial ?_ | refine x_assign rfl rfl rfl trivial ?_ | refine x_add rfl rfl rfl (wrap_i64 (by omega) (by omega)) rfl trivial ?_ | refine x_sub_ rfl rfl rfl (wrap_i64 (by omega) (by omega)) rfl trivial ?_ | refine x_peqn rfl rfl rfl rfl trivial ?_ | refine x_ibin rfl rfl rfl rfl rfl trivial ?_ | refine x_len rfl rfl (by assumption) rfl trivial ?_ | refine x_pick_t rfl rfl rfl rfl trivial ?_ | refine x_pick_f rfl rfl rfl rfl trivial ?_ | refine x_not rfl rfl rfl trivial ?_ | refine x_extract rfl rfl rfl rfl trivial ?_ | refine x_nilCheck rfl rfl rfl trivial ?_ | refine x_fieldAddr rfl rfl rfl rfl trivial ?_ | refine x_skip trivial rfl rfl rfl ?_ | refine x_indexAddr1 rfl rfl rfl (by assumption) (by omega) (by omega) rfl trivial ?_ | refine x_indexAddr rfl rfl rfl (by assumption) (by omega) (by omega) rfl trivial ?_ | refine x_nil ?_ | refine cw_seq ?_ | refine nw_seq ?_ | refine nw_block ?_ | refine cw_block ?_ | refine cw_skip ?_ | refine cw_region ?_ | refine cw_exit rfl ?_ | refine cw_true rfl ?_ | refine cw_false rfl ?_)
    refine x_load rfl rfl (hpmt (cu)) rfl trivial ?_
    refine x_call rfl rfl rfl trivial (shelf_New hPu (by omega) (fun p hp => by have := hwk p hp; omega)) ?_
    rintro v2 H2 ⟨hk2, h2⟩
    refine ⟨trivial, ?_⟩
    rcases h2 with ⟨h2, _⟩ | ⟨_, s, K, rfl, hF, hS⟩
    · exact absurd ⟨hwl, hwr⟩ h2
    have cu2 := hk2.cel cu (fun h => h)
    repeat (first | refine x_move rfl rfl rfl trivial ?_ | refine x_assign rfl rfl rfl trivial ?_ | refine x_add rfl rfl rfl (wrap_i64 (by omega) (by omega)) rfl trivial ?_ | refine x_sub_ rfl rfl rfl (wrap_i64 (by omega) (by omega)) rfl trivial ?_ | refine x_ibin rfl rfl rfl rfl rfl trivial ?_ | refine x_len rfl rfl (by assumption) rfl trivial ?_ | refine x_pick_t rfl rfl rfl rfl trivial ?_ | refine x_pick_f rfl rfl rfl rfl trivial ?_ | refine x_not rfl rfl rfl trivial ?_ | refine x_extract rfl rfl rfl rfl trivial ?_ | refine x_nilCheck rfl rfl rfl trivial ?_ | refine x_fieldAddr rfl rfl rfl rfl trivial ?_ | refine x_skip trivial rfl rfl rfl ?_ | refine x_indexAddr1 rfl rfl rfl (by assumption) (by omega) (by omega) rfl trivial ?_ | refine x_indexAddr rfl rfl rfl (by assumption) (by omega) (by omega) rfl trivial ?_ | refine x_nil ?_ | refine cw_seq ?_ | refine nw_seq ?_ | refine nw_block ?_ | refine cw_block ?_ | refine cw_skip ?_ | refine cw_exit rfl ?_ | refine cw_true rfl ?_ | refine cw_false rfl ?_)
    refine cw_cut (fun _ : Unit => [(1, vk), (5, ptr wb 0), (6, ptr s 0), (46, .bool false)]) (fun _ H' => H2 = H') ?_ ?_
    · refine cw_quiet mixed (by kernel_rfl) ?_
      repeat (first | refine x_move rfl rfl rfl trivial ?_ | refine x_assign rfl rfl rfl trivial ?_ | refine x_add rfl rfl rfl (wrap_i64 (by omega) (by omega)) rfl trivial ?_ | refine x_sub_ rfl rfl rfl (wrap_i64 (by omega) (by omega)) rfl trivial ?_ | refine x_peqn rfl rfl rfl rfl trivial ?_ | refine x_ibin rfl rfl rfl rfl rfl trivial ?_ | refine x_len rfl rfl (by assumption) rfl trivial ?_ | refine x_pick_t rfl rfl rfl rfl trivial ?_ | refine x_pick_f rfl rfl rfl rfl trivial ?_ | refine x_not rfl rfl rfl trivial ?_ | refine x_extract rfl rfl rfl rfl trivial ?_ | refine x_nilCheck rfl rfl rfl trivial ?_ | refine x_fieldAddr rfl rfl rfl rfl trivial ?_ | refine x_skip trivial rfl rfl rfl ?_ | refine x_indexAddr1 rfl rfl rfl (by assumption) (by omega) (by omega) rfl trivial ?_ | refine x_indexAddr rfl rfl rfl (by assumption) (by omega) (by omega) rfl trivial ?_ | refine x_nil ?_ | refine cw_seq ?_ | refine nw_seq ?_ | refine nw_block ?_ | refine cw_block ?_ | refine cw_skip ?_ | refine cw_region ?_ | refine cw_exit rfl ?_ | refine cw_true rfl ?_ | refine cw_false rfl ?_)
      refine x_callq rfl rfl rfl ((shelf_Len hS).mono fun _ _ h => ⟨h.1.symm, h.2⟩) ?_
      repeat (first | refine x_move rfl rfl rfl trivial ?_ | refine x_assign rfl rfl rfl trivial ?_ | refine x_add rfl rfl rfl (wrap_i64 (by omega) (by omega)) rfl trivial ?_ | refine x_sub_ rfl rfl rfl (wrap_i64 (by omega) (by omega)) rfl trivial ?_ | refine x_peqn rfl rfl rfl rfl trivial ?_ | refine x_ibin rfl rfl rfl rfl rfl trivial ?_ | refine x_len rfl rfl (by assumption) rfl trivial ?_ | refine x_pick_t rfl rfl rfl rfl trivial ?_ | refine x_pick_f rfl rfl rfl rfl trivial ?_ | refine x_not rfl rfl rfl trivial ?_ | refine x_extract rfl rfl rfl rfl trivial ?_ | refine x_nilCheck rfl rfl rfl trivial ?_ | refine x_fieldAddr rfl rfl rfl rfl trivial ?_ | refine x_skip trivial rfl rfl rfl ?_ | refine x_indexAddr1 rfl rfl rfl (by assumption) (by omega) (by omega) rfl trivial ?_ | refine x_indexAddr rfl rfl rfl (by assumption) (by omega) (by omega) rfl trivial ?_ | refine x_nil ?_ | refine cw_seq ?_ | refine nw_seq ?_ | refine nw_block ?_ | refine cw_block ?_ | refine cw_skip ?_ | refine cw_region ?_ | refine cw_exit rfl ?_ | refine cw_true rfl ?_ | refine cw_false rfl ?_)
      refine x_load rfl rfl (hpmt (cu2)) rfl trivial ?_
      repeat (first | refine x_move rfl rfl rfl trivial ?_ | refine x_assign rfl rfl rfl trivial ?_ | refine x_add rfl rfl rfl (wrap_i64 (by omega) (by omega)) rfl trivial ?_ | refine x_sub_ rfl rfl rfl (wrap_i64 (by omega) (by omega)) rfl trivial ?_ | refine x_peqn rfl rfl rfl rfl trivial ?_ | refine x_ibin rfl rfl rfl rfl rfl trivial ?_ | refine x_len rfl rfl (by assumption) rfl trivial ?_ | refine x_pick_t rfl rfl rfl rfl trivial ?_ | refine x_pick_f rfl rfl rfl rfl trivial ?_ | refine x_not rfl rfl rfl trivial ?_ | refine x_extract rfl rfl rfl rfl trivial ?_ | refine x_nilCheck rfl rfl rfl trivial ?_ | refine x_fieldAddr rfl rfl rfl rfl trivial ?_ | refine x_skip trivial rfl rfl rfl ?_ | refine x_indexAddr1 rfl rfl rfl (by assumption) (by omega) (by omega) rfl trivial ?_ | refine x_indexAddr rfl rfl rfl (by assumption) (by omega) (by omega) rfl trivial ?_ | refine x_nil ?_ | refine cw_seq ?_ | refine nw_seq ?_ | refine nw_block ?_ | refine cw_block ?_ | refine cw_skip ?_ | refine cw_region ?_ | refine cw_exit rfl ?_ | refine cw_true rfl ?_ | refine cw_false rfl ?_)
      refine nw_meet () ⟨rfl, rfl, rfl, ?_, trivial⟩ rfl
      show some (Value.bool ((w.length : Int) != (w.length : Int))) = some (Value.bool false)
      simp
    · rintro _ _ rfl
      have hrk := rank_le w k
      repeat (first | refine x_move rfl rfl rfl trivial ?_ | refine x_assign rfl rfl rfl trivial ?_ | refine x_add rfl rfl rfl (wrap_i64 (by omega) (by omega)) rfl trivial ?_ | refine x_sub_ rfl rfl rfl (wrap_i64 (by omega) (by omega)) rfl trivial ?_ | refine x_peqn rfl rfl rfl rfl trivial ?_ | refine x_ibin rfl rfl rfl rfl rfl trivial ?_ | refine x_len rfl rfl (by assumption) rfl trivial ?_ | refine x_pick_t rfl rfl rfl rfl trivial ?_ | refine x_pick_f rfl rfl rfl rfl trivial ?_ | refine x_not rfl rfl rfl trivial ?_ | refine x_extract rfl rfl rfl rfl trivial ?_ | refine x_nilCheck rfl rfl rfl trivial ?_ | refine x_fieldAddr rfl rfl rfl rfl trivial ?_ | refine x_skip trivial rfl rfl rfl ?_ | refine x_indexAddr1 rfl rfl rfl (by assumption) (by omega) (by omega) rfl trivial ?_ | refine x_indexAddr rfl rfl rfl (by assumption) (by omega) (by omega) rfl trivial ?_ | refine x_nil ?_ | refine cw_seq ?_ | refine nw_seq ?_ | refine nw_block ?_ | refine cw_block ?_ | refine cw_skip ?_ | refine cw_region ?_ | refine cw_exit rfl ?_ | refine cw_true rfl ?_ | refine cw_false rfl ?_)
      refine cw_loop (fun i : Nat => [(1, vk), (5, ptr wb 0), (6, ptr s 0), (7, .int .i64 ((min i (rank w k) : Nat) : Int)), (8, .int .i64 i)]) (fun i H' => i ≤ w.length ∧ Keep Non H2 H') (fun i => w.length - i) 0 ⟨rfl, rfl, rfl, by rw [Nat.zero_min]; rfl, rfl, trivial⟩ ⟨Nat.zero_le _, Keep.refl _ _⟩ ?_
      rintro i H3 ⟨hi, hk3⟩
      have hk13 := hk2.non_trans hk3
      have hP3 := hPu.keepN hk13
      have cu3 := hk3.cel cu2 (fun h => h)
      have hS3 := hS.keepN hk3
      have hK3 := hK1.keepN hk13
      repeat (first | refine x_move rfl rfl rfl trivial ?_ | refine x_assign rfl rfl rfl trivial ?_ | refine x_add rfl rfl rfl (wrap_i64 (by omega) (by omega)) rfl trivial ?_ | refine x_sub_ rfl rfl rfl (wrap_i64 (by omega) (by omega)) rfl trivial ?_ | refine x_peqn rfl rfl rfl rfl trivial ?_ | refine x_ibin rfl rfl rfl rfl rfl trivial ?_ | refine x_len rfl rfl (by assumption) rfl trivial ?_ | refine x_pick_t rfl rfl rfl rfl trivial ?_ | refine x_pick_f rfl rfl rfl rfl trivial ?_ | refine x_not rfl rfl rfl trivial ?_ | refine x_extract rfl rfl rfl rfl trivial ?_ | refine x_nilCheck rfl rfl rfl trivial ?_ | refine x_fieldAddr rfl rfl rfl rfl trivial ?_ | refine x_skip trivial rfl rfl rfl ?_ | refine x_indexAddr1 rfl rfl rfl (by assumption) (by omega) (by omega) rfl trivial ?_ | refine x_indexAddr rfl rfl rfl (by assumption) (by omega) (by omega) rfl trivial ?_ | refine x_nil ?_ | refine cw_seq ?_ | refine nw_seq ?_ | refine nw_block ?_ | refine cw_block ?_ | refine cw_skip ?_ | refine cw_region ?_ | refine cw_exit rfl ?_ | refine cw_true rfl ?_ | refine cw_false rfl ?_)
      refine x_load rfl rfl (hpmt (cu3)) rfl trivial ?_
      repeat (first | refine x_move rfl rfl rfl trivial ?_ | refine x_assign rfl rfl rfl trivial ?_ | refine x_add rfl rfl rfl (wrap_i64 (by omega) (by omega)) rfl trivial ?_ | refine x_sub_ rfl rfl rfl (wrap_i64 (by omega) (by omega)) rfl trivial ?_ | refine x_peqn rfl rfl rfl rfl trivial ?_ | refine x_ibin rfl rfl rfl rfl rfl trivial ?_ | refine x_len rfl rfl (by assumption) rfl trivial ?_ | refine x_pick_t rfl rfl rfl rfl trivial ?_ | refine x_pick_f rfl rfl rfl rfl trivial ?_ | refine x_not rfl rfl rfl trivial ?_ | refine x_extract rfl rfl rfl rfl trivial ?_ | refine x_nilCheck rfl rfl rfl trivial ?_ | refine x_fieldAddr rfl rfl rfl rfl trivial ?_ | refine x_skip trivial rfl rfl rfl ?_ | refine x_indexAddr1 rfl rfl rfl (by assumption) (by omega) (by omega) rfl trivial ?_ | refine x_indexAddr rfl rfl rfl (by assumption) (by omega) (by omega) rfl trivial ?_ | refine x_nil ?_ | refine cw_seq ?_ | refine nw_seq ?_ | refine nw_block ?_ | refine cw_block ?_ | refine cw_skip ?_ | refine cw_region ?_ | refine cw_exit rfl ?_ | refine cw_true rfl ?_ | refine cw_false rfl ?_)
      refine cw_cond rfl (fun h3 => ?_) (fun h3 => ?_) <;> (try simp at h3)
      · obtain ⟨p, hp⟩ := getp (l := w) h3
        obtain ⟨kw, a1, a2, a3⟩ := hP3.at_ _ _ hp
        obtain ⟨r1, r2, r3⟩ := rank_self hwr hp
        have hlt := rank_lt (k := k) hwr hp
        have h3' := cmp_eq3 p.1 k
        repeat (first | refine x_move rfl rfl rfl trivial ?_ | refine x_assign rfl rfl rfl trivial ?_ | refine x_add rfl rfl rfl (wrap_i64 (by omega) (by omega)) rfl trivial ?_ | refine x_sub_ rfl rfl rfl (wrap_i64 (by omega) (by omega)) rfl trivial ?_ | refine x_ibin rfl rfl rfl rfl rfl trivial ?_ | refine x_len rfl rfl (by assumption) rfl trivial ?_ | refine x_pick_t rfl rfl rfl rfl trivial ?_ | refine x_pick_f rfl rfl rfl rfl trivial ?_ | refine x_not rfl rfl rfl trivial ?_ | refine x_extract rfl rfl rfl rfl trivial ?_ | refine x_nilCheck rfl rfl rfl trivial ?_ | refine x_fieldAddr rfl rfl rfl rfl trivial ?_ | refine x_skip trivial rfl rfl rfl ?_ | refine x_indexAddr1 rfl rfl rfl (by assumption) (by omega) (by omega) rfl trivial ?_ | refine x_indexAddr rfl rfl rfl (by assumption) (by omega) (by omega) rfl trivial ?_ | refine x_nil ?_ | refine cw_seq ?_ | refine nw_seq ?_ | refine nw_block ?_ | refine cw_block ?_ | refine cw_skip ?_ | refine cw_exit rfl ?_ | refine cw_true rfl ?_ | refine cw_false rfl ?_)
        refine cw_cut (fun _ : Unit => [(1, vk), (5, ptr wb 0), (6, ptr s 0), (7, .int .i64 ((min i (rank w k) : Nat) : Int)), (8, .int .i64 i), (67, .bool (decide (i < rank w k)))]) (fun _ H' => H3 = H') ?_ ?_
        · refine cw_quiet mixed (by kernel_rfl) ?_
          repeat (first | refine x_move rfl rfl rfl trivial ?_ | refine x_assign rfl rfl rfl trivial ?_ | refine x_add rfl rfl rfl (wrap_i64 (by omega) (by omega)) rfl trivial ?_ | refine x_sub_ rfl rfl rfl (wrap_i64 (by omega) (by omega)) rfl trivial ?_ | refine x_peqn rfl rfl rfl rfl trivial ?_ | refine x_ibin rfl rfl rfl rfl rfl trivial ?_ | refine x_len rfl rfl (by assumption) rfl trivial ?_ | refine x_pick_t rfl rfl rfl rfl trivial ?_ | refine x_pick_f rfl rfl rfl rfl trivial ?_ | refine x_not rfl rfl rfl trivial ?_ | refine x_extract rfl rfl rfl rfl trivial ?_ | refine x_nilCheck rfl rfl rfl trivial ?_ | refine x_fieldAddr rfl rfl rfl rfl trivial ?_ | refine x_skip trivial rfl rfl rfl ?_ | refine x_indexAddr1 rfl rfl rfl (by assumption) (by omega) (by omega) rfl trivial ?_ | refine x_indexAddr rfl rfl rfl (by assumption) (by omega) (by omega) rfl trivial ?_ | refine x_nil ?_ | refine cw_seq ?_ | refine nw_seq ?_ | refine nw_block ?_ | refine cw_block ?_ | refine cw_skip ?_ | refine cw_region ?_ | refine cw_exit rfl ?_ | refine cw_true rfl ?_ | refine cw_false rfl ?_)
          refine x_load rfl rfl (hpmt (cu3)) rfl trivial ?_
          repeat (first | refine x_move rfl rfl rfl trivial ?_ | refine x_assign rfl rfl rfl trivial ?_ | refine x_add rfl rfl rfl (wrap_i64 (by omega) (by omega)) rfl trivial ?_ | refine x_sub_ rfl rfl rfl (wrap_i64 (by omega) (by omega)) rfl trivial ?_ | refine x_peqn rfl rfl rfl rfl trivial ?_ | refine x_ibin rfl rfl rfl rfl rfl trivial ?_ | refine x_len rfl rfl (by assumption) rfl trivial ?_ | refine x_pick_t rfl rfl rfl rfl trivial ?_ | refine x_pick_f rfl rfl rfl rfl trivial ?_ | refine x_not rfl rfl rfl trivial ?_ | refine x_extract rfl rfl rfl rfl trivial ?_ | refine x_nilCheck rfl rfl rfl trivial ?_ | refine x_fieldAddr rfl rfl rfl rfl trivial ?_ | refine x_skip trivial rfl rfl rfl ?_ | refine x_indexAddr1 rfl rfl rfl (by assumption) (by omega) (by omega) rfl trivial ?_ | refine x_indexAddr rfl rfl rfl (by assumption) (by omega) (by omega) rfl trivial ?_ | refine x_nil ?_ | refine cw_seq ?_ | refine nw_seq ?_ | refine nw_block ?_ | refine cw_block ?_ | refine cw_skip ?_ | refine cw_region ?_ | refine cw_exit rfl ?_ | refine cw_true rfl ?_ | refine cw_false rfl ?_)
          refine x_load rfl rfl (hpmt (a1)) rfl trivial ?_
          refine x_tostr rfl rfl (hpmt a3) rfl trivial ?_
          repeat (first | refine x_move rfl rfl rfl trivial ?_ | refine x_assign rfl rfl rfl trivial ?_ | refine x_add rfl rfl rfl (wrap_i64 (by omega) (by omega)) rfl trivial ?_ | refine x_sub_ rfl rfl rfl (wrap_i64 (by omega) (by omega)) rfl trivial ?_ | refine x_peqn rfl rfl rfl rfl trivial ?_ | refine x_ibin rfl rfl rfl rfl rfl trivial ?_ | refine x_len rfl rfl (by assumption) rfl trivial ?_ | refine x_pick_t rfl rfl rfl rfl trivial ?_ | refine x_pick_f rfl rfl rfl rfl trivial ?_ | refine x_not rfl rfl rfl trivial ?_ | refine x_extract rfl rfl rfl rfl trivial ?_ | refine x_nilCheck rfl rfl rfl trivial ?_ | refine x_fieldAddr rfl rfl rfl rfl trivial ?_ | refine x_skip trivial rfl rfl rfl ?_ | refine x_indexAddr1 rfl rfl rfl (by assumption) (by omega) (by omega) rfl trivial ?_ | refine x_indexAddr rfl rfl rfl (by assumption) (by omega) (by omega) rfl trivial ?_ | refine x_nil ?_ | refine cw_seq ?_ | refine nw_seq ?_ | refine nw_block ?_ | refine cw_block ?_ | refine cw_skip ?_ | refine cw_region ?_ | refine cw_exit rfl ?_ | refine cw_true rfl ?_ | refine cw_false rfl ?_)
          refine x_tostr rfl rfl (hpmt hK3) rfl trivial ?_
          refine x_slss rfl rfl rfl rfl trivial ?_
          rw [str_list, str_list, less_cmp]
          have e : decide (cmpB p.1 k = -1) = decide (i < rank w k) := by
            by_cases h : i < rank w k
            · rw [decide_eq_true h, decide_eq_true]
              have := hlt.2 h
              omega
            · rw [decide_eq_false h, decide_eq_false]
              intro e
              exact h (hlt.1 (by omega))
          rw [e]
          repeat (first | refine x_move rfl rfl rfl trivial ?_ | refine x_assign rfl rfl rfl trivial ?_ | refine x_add rfl rfl rfl (wrap_i64 (by omega) (by omega)) rfl trivial ?_ | refine x_sub_ rfl rfl rfl (wrap_i64 (by omega) (by omega)) rfl trivial ?_ | refine x_peqn rfl rfl rfl rfl trivial ?_ | refine x_ibin rfl rfl rfl rfl rfl trivial ?_ | refine x_len rfl rfl (by assumption) rfl trivial ?_ | refine x_pick_t rfl rfl rfl rfl trivial ?_ | refine x_pick_f rfl rfl rfl rfl trivial ?_ | refine x_not rfl rfl rfl trivial ?_ | refine x_extract rfl rfl rfl rfl trivial ?_ | refine x_nilCheck rfl rfl rfl trivial ?_ | refine x_fieldAddr rfl rfl rfl rfl trivial ?_ | refine x_skip trivial rfl rfl rfl ?_ | refine x_indexAddr1 rfl rfl rfl (by assumption) (by omega) (by omega) rfl trivial ?_ | refine x_indexAddr rfl rfl rfl (by assumption) (by omega) (by omega) rfl trivial ?_ | refine x_nil ?_ | refine cw_seq ?_ | refine nw_seq ?_ | refine nw_block ?_ | refine cw_block ?_ | refine cw_skip ?_ | refine cw_region ?_ | refine cw_exit rfl ?_ | refine cw_true rfl ?_ | refine cw_false rfl ?_)
          exact nw_meet () (by repeat (first | exact True.intro | refine ⟨rfl, ?_⟩)) rfl
        · rintro _ _ rfl
          repeat (first | refine x_move rfl rfl rfl trivial ?_ | refine x_assign rfl rfl rfl trivial ?_ | refine x_add rfl rfl rfl (wrap_i64 (by omega) (by omega)) rfl trivial ?_ | refine x_sub_ rfl rfl rfl (wrap_i64 (by omega) (by omega)) rfl trivial ?_ | refine x_ibin rfl rfl rfl rfl rfl trivial ?_ | refine x_len rfl rfl (by assumption) rfl trivial ?_ | refine x_pick_t rfl rfl rfl rfl trivial ?_ | refine x_pick_f rfl rfl rfl rfl trivial ?_ | refine x_not rfl rfl rfl trivial ?_ | refine x_extract rfl rfl rfl rfl trivial ?_ | refine x_nilCheck rfl rfl rfl trivial ?_ | refine x_fieldAddr rfl rfl rfl rfl trivial ?_ | refine x_skip trivial rfl rfl rfl ?_ | refine x_indexAddr1 rfl rfl rfl (by assumption) (by omega) (by omega) rfl trivial ?_ | refine x_indexAddr rfl rfl rfl (by assumption) (by omega) (by omega) rfl trivial ?_ | refine x_nil ?_ | refine cw_seq ?_ | refine nw_seq ?_ | refine nw_block ?_ | refine cw_block ?_ | refine cw_skip ?_ | refine cw_exit rfl ?_ | refine cw_true rfl ?_ | refine cw_false rfl ?_)
          refine cw_cut (fun _ : Unit => [(1, vk), (5, ptr wb 0), (6, ptr s 0), (7, .int .i64 ((min (i + 1) (rank w k) : Nat) : Int)), (8, .int .i64 i)]) (fun _ H' => H3 = H') ?_ ?_
          · refine cw_cond rfl (fun h5 => ?_) (fun h5 => ?_)
            · have h5 := of_decide_eq_true h5
              repeat (first | refine x_move rfl rfl rfl trivial ?_ | refine x_assign rfl rfl rfl trivial ?_ | refine x_add rfl rfl rfl (wrap_i64 (by omega) (by omega)) rfl trivial ?_ | refine x_sub_ rfl rfl rfl (wrap_i64 (by omega) (by omega)) rfl trivial ?_ | refine x_peqn rfl rfl rfl rfl trivial ?_ | refine x_ibin rfl rfl rfl rfl rfl trivial ?_ | refine x_len rfl rfl (by assumption) rfl trivial ?_ | refine x_pick_t rfl rfl rfl rfl trivial ?_ | refine x_pick_f rfl rfl rfl rfl trivial ?_ | refine x_not rfl rfl rfl trivial ?_ | refine x_extract rfl rfl rfl rfl trivial ?_ | refine x_nilCheck rfl rfl rfl trivial ?_ | refine x_fieldAddr rfl rfl rfl rfl trivial ?_ | refine x_skip trivial rfl rfl rfl ?_ | refine x_indexAddr1 rfl rfl rfl (by assumption) (by omega) (by omega) rfl trivial ?_ | refine x_indexAddr rfl rfl rfl (by assumption) (by omega) (by omega) rfl trivial ?_ | refine x_nil ?_ | refine cw_seq ?_ | refine nw_seq ?_ | refine nw_block ?_ | refine cw_block ?_ | refine cw_skip ?_ | refine cw_region ?_ | refine cw_exit rfl ?_ | refine cw_true rfl ?_ | refine cw_false rfl ?_)
              refine nw_meet () ⟨rfl, rfl, rfl, ?_, rfl, trivial⟩ rfl
              rw [show min (i + 1) (rank w k) = min i (rank w k) + 1 by omega]
              rfl
            · have h5 := of_decide_eq_false h5
              repeat (first | refine x_move rfl rfl rfl trivial ?_ | refine x_assign rfl rfl rfl trivial ?_ | refine x_add rfl rfl rfl (wrap_i64 (by omega) (by omega)) rfl trivial ?_ | refine x_sub_ rfl rfl rfl (wrap_i64 (by omega) (by omega)) rfl trivial ?_ | refine x_peqn rfl rfl rfl rfl trivial ?_ | refine x_ibin rfl rfl rfl rfl rfl trivial ?_ | refine x_len rfl rfl (by assumption) rfl trivial ?_ | refine x_pick_t rfl rfl rfl rfl trivial ?_ | refine x_pick_f rfl rfl rfl rfl trivial ?_ | refine x_not rfl rfl rfl trivial ?_ | refine x_extract rfl rfl rfl rfl trivial ?_ | refine x_nilCheck rfl rfl rfl trivial ?_ | refine x_fieldAddr rfl rfl rfl rfl trivial ?_ | refine x_skip trivial rfl rfl rfl ?_ | refine x_indexAddr1 rfl rfl rfl (by assumption) (by omega) (by omega) rfl trivial ?_ | refine x_indexAddr rfl rfl rfl (by assumption) (by omega) (by omega) rfl trivial ?_ | refine x_nil ?_ | refine cw_seq ?_ | refine nw_seq ?_ | refine nw_block ?_ | refine cw_block ?_ | refine cw_skip ?_ | refine cw_region ?_ | refine cw_exit rfl ?_ | refine cw_true rfl ?_ | refine cw_false rfl ?_)
              refine nw_meet () ⟨rfl, rfl, rfl, ?_, rfl, trivial⟩ rfl
              rw [show min (i + 1) (rank w k) = min i (rank w k) by omega]
              rfl
          · rintro _ _ rfl
            repeat (first | refine x_move rfl rfl rfl trivial ?_ | refine x_assign rfl rfl rfl trivial ?_ | refine x_add rfl rfl rfl (wrap_i64 (by omega) (by omega)) rfl trivial ?_ | refine x_sub_ rfl rfl rfl (wrap_i64 (by omega) (by omega)) rfl trivial ?_ | refine x_peqn rfl rfl rfl rfl trivial ?_ | refine x_ibin rfl rfl rfl rfl rfl trivial ?_ | refine x_len rfl rfl (by assumption) rfl trivial ?_ | refine x_pick_t rfl rfl rfl rfl trivial ?_ | refine x_pick_f rfl rfl rfl rfl trivial ?_ | refine x_not rfl rfl rfl trivial ?_ | refine x_extract rfl rfl rfl rfl trivial ?_ | refine x_nilCheck rfl rfl rfl trivial ?_ | refine x_fieldAddr rfl rfl rfl rfl trivial ?_ | refine x_skip trivial rfl rfl rfl ?_ | refine x_indexAddr1 rfl rfl rfl (by assumption) (by omega) (by omega) rfl trivial ?_ | refine x_indexAddr rfl rfl rfl (by assumption) (by omega) (by omega) rfl trivial ?_ | refine x_nil ?_ | refine cw_seq ?_ | refine nw_seq ?_ | refine nw_block ?_ | refine cw_block ?_ | refine cw_skip ?_ | refine cw_region ?_ | refine cw_exit rfl ?_ | refine cw_true rfl ?_ | refine cw_false rfl ?_)
            refine x_load rfl rfl (hpmt (cu3)) rfl trivial ?_
            repeat (first | refine x_move rfl rfl rfl trivial ?_ | refine x_assign rfl rfl rfl trivial ?_ | refine x_add rfl rfl rfl (wrap_i64 (by omega) (by omega)) rfl trivial ?_ | refine x_sub_ rfl rfl rfl (wrap_i64 (by omega) (by omega)) rfl trivial ?_ | refine x_peqn rfl rfl rfl rfl trivial ?_ | refine x_ibin rfl rfl rfl rfl rfl trivial ?_ | refine x_len rfl rfl (by assumption) rfl trivial ?_ | refine x_pick_t rfl rfl rfl rfl trivial ?_ | refine x_pick_f rfl rfl rfl rfl trivial ?_ | refine x_not rfl rfl rfl trivial ?_ | refine x_extract rfl rfl rfl rfl trivial ?_ | refine x_nilCheck rfl rfl rfl trivial ?_ | refine x_fieldAddr rfl rfl rfl rfl trivial ?_ | refine x_skip trivial rfl rfl rfl ?_ | refine x_indexAddr1 rfl rfl rfl (by assumption) (by omega) (by omega) rfl trivial ?_ | refine x_indexAddr rfl rfl rfl (by assumption) (by omega) (by omega) rfl trivial ?_ | refine x_nil ?_ | refine cw_seq ?_ | refine nw_seq ?_ | refine nw_block ?_ | refine cw_block ?_ | refine cw_skip ?_ | refine cw_region ?_ | refine cw_exit rfl ?_ | refine cw_true rfl ?_ | refine cw_false rfl ?_)
            refine x_load rfl rfl (hpmt (a1)) rfl trivial ?_
            refine x_call rfl rfl rfl trivial (shelf_Find hS3 a3) ?_
            rintro _ H4 ⟨hk4, rfl⟩
            refine ⟨trivial, ?_⟩
            rw [r1, r2]
            have hS4 := hS3.keepN hk4
            repeat (first | refine x_move rfl rfl rfl trivial ?_ | refine x_assign rfl rfl rfl trivial ?_ | refine x_add rfl rfl rfl (wrap_i64 (by omega) (by omega)) rfl trivial ?_ | refine x_sub_ rfl rfl rfl (wrap_i64 (by omega) (by omega)) rfl trivial ?_ | refine x_peqn rfl rfl rfl rfl trivial ?_ | refine x_ibin rfl rfl rfl rfl rfl trivial ?_ | refine x_len rfl rfl (by assumption) rfl trivial ?_ | refine x_pick_t rfl rfl rfl rfl trivial ?_ | refine x_pick_f rfl rfl rfl rfl trivial ?_ | refine x_not rfl rfl rfl trivial ?_ | refine x_extract rfl rfl rfl rfl trivial ?_ | refine x_nilCheck rfl rfl rfl trivial ?_ | refine x_fieldAddr rfl rfl rfl rfl trivial ?_ | refine x_skip trivial rfl rfl rfl ?_ | refine x_indexAddr1 rfl rfl rfl (by assumption) (by omega) (by omega) rfl trivial ?_ | refine x_indexAddr rfl rfl rfl (by assumption) (by omega) (by omega) rfl trivial ?_ | refine x_nil ?_ | refine cw_seq ?_ | refine nw_seq ?_ | refine nw_block ?_ | refine cw_block ?_ | refine cw_skip ?_ | refine cw_region ?_ | refine cw_exit rfl ?_ | refine cw_true rfl ?_ | refine cw_false rfl ?_)
            refine x_call rfl rfl rfl trivial (shelf_At i hS4) ?_
            rintro _ H5 ⟨hk5, c5, rfl, hc5, hf5⟩
            refine ⟨trivial, ?_⟩
            have hsel : selI w (i : Int) = some p := by unfold selI; rw [if_pos (by omega)]; exact hp
            rw [hsel] at hc5 ⊢
            have hC5 : Bs H5 c5 p.1 := hc5.bs
            repeat (first | refine x_move rfl rfl rfl trivial ?_ | refine x_assign rfl rfl rfl trivial ?_ | refine x_add rfl rfl rfl (wrap_i64 (by omega) (by omega)) rfl trivial ?_ | refine x_sub_ rfl rfl rfl (wrap_i64 (by omega) (by omega)) rfl trivial ?_ | refine x_peqn rfl rfl rfl rfl trivial ?_ | refine x_ibin rfl rfl rfl rfl rfl trivial ?_ | refine x_len rfl rfl (by assumption) rfl trivial ?_ | refine x_pick_t rfl rfl rfl rfl trivial ?_ | refine x_pick_f rfl rfl rfl rfl trivial ?_ | refine x_not rfl rfl rfl trivial ?_ | refine x_extract rfl rfl rfl rfl trivial ?_ | refine x_nilCheck rfl rfl rfl trivial ?_ | refine x_fieldAddr rfl rfl rfl rfl trivial ?_ | refine x_skip trivial rfl rfl rfl ?_ | refine x_indexAddr1 rfl rfl rfl (by assumption) (by omega) (by omega) rfl trivial ?_ | refine x_indexAddr rfl rfl rfl (by assumption) (by omega) (by omega) rfl trivial ?_ | refine x_nil ?_ | refine cw_seq ?_ | refine nw_seq ?_ | refine nw_block ?_ | refine cw_block ?_ | refine cw_skip ?_ | refine cw_region ?_ | refine cw_exit rfl ?_ | refine cw_true rfl ?_ | refine cw_false rfl ?_)
            refine x_alloc rfl rfl trivial ?_
            intro H6 hn6
            refine ⟨trivial, ?_⟩
            refine x_stores (cs := [c5, .int .u64 p.2]) rfl rfl rfl rfl (two_oneC' (isSl_oneC hC5.sl)) hn6.blk (by simp) trivial ?_
            intro H7 hB7 hk7 hs7
            refine ⟨trivial, ?_⟩
            have hk57 : Keep Non H5 H7 := keep_at hn6.keep hk7 (Nat.le_refl _)
            have hk37 := (hk4.non_trans hk5).non_trans hk57
            have e0 : cel H7 H5.size 0 = some c5 := by rw [hB7.cel]; rfl
            have e1 : cel H7 H5.size 1 = some (.int .u64 p.2) := by rw [hB7.cel]; rfl
            have cu7 := hk37.cel cu3 (fun h => h)
            have a1' := hk37.cel a1 (fun h => h)
            have a2' := hk37.cel a2 (fun h => h)
            have a3' := a3.keepN hk37
            have hC7 := hC5.keepN hk57
            repeat (first | refine x_move rfl rfl rfl trivial ?_ | refine x_assign rfl rfl rfl trivial ?_ | refine x_add rfl rfl rfl (wrap_i64 (by omega) (by omega)) rfl trivial ?_ | refine x_sub_ rfl rfl rfl (wrap_i64 (by omega) (by omega)) rfl trivial ?_ | refine x_ibin rfl rfl rfl rfl rfl trivial ?_ | refine x_len rfl rfl (by assumption) rfl trivial ?_ | refine x_pick_t rfl rfl rfl rfl trivial ?_ | refine x_pick_f rfl rfl rfl rfl trivial ?_ | refine x_not rfl rfl rfl trivial ?_ | refine x_extract rfl rfl rfl rfl trivial ?_ | refine x_nilCheck rfl rfl rfl trivial ?_ | refine x_fieldAddr rfl rfl rfl rfl trivial ?_ | refine x_skip trivial rfl rfl rfl ?_ | refine x_indexAddr1 rfl rfl rfl (by assumption) (by omega) (by omega) rfl trivial ?_ | refine x_indexAddr rfl rfl rfl (by assumption) (by omega) (by omega) rfl trivial ?_ | refine x_nil ?_ | refine cw_seq ?_ | refine nw_seq ?_ | refine nw_block ?_ | refine cw_block ?_ | refine cw_skip ?_ | refine cw_exit rfl ?_ | refine cw_true rfl ?_ | refine cw_false rfl ?_)
            refine cw_cut (fun _ : Unit => [(1, vk), (5, ptr wb 0), (6, ptr s 0), (7, .int .i64 ((min (i + 1) (rank w k) : Nat) : Int)), (8, .int .i64 i), (126, .bool false)]) (fun _ H' => H7 = H') ?_ ?_
            · refine cw_quiet mixed (by kernel_rfl) ?_
              repeat (first | refine x_move rfl rfl rfl trivial ?_ | refine x_assign rfl rfl rfl trivial ?_ | refine x_add rfl rfl rfl (wrap_i64 (by omega) (by omega)) rfl trivial ?_ | refine x_sub_ rfl rfl rfl (wrap_i64 (by omega) (by omega)) rfl trivial ?_ | refine x_peqn rfl rfl rfl rfl trivial ?_ | refine x_ibin rfl rfl rfl rfl rfl trivial ?_ | refine x_len rfl rfl (by assumption) rfl trivial ?_ | refine x_pick_t rfl rfl rfl rfl trivial ?_ | refine x_pick_f rfl rfl rfl rfl trivial ?_ | refine x_not rfl rfl rfl trivial ?_ | refine x_extract rfl rfl rfl rfl trivial ?_ | refine x_nilCheck rfl rfl rfl trivial ?_ | refine x_fieldAddr rfl rfl rfl rfl trivial ?_ | refine x_skip trivial rfl rfl rfl ?_ | refine x_indexAddr1 rfl rfl rfl (by assumption) (by omega) (by omega) rfl trivial ?_ | refine x_indexAddr rfl rfl rfl (by assumption) (by omega) (by omega) rfl trivial ?_ | refine x_nil ?_ | refine cw_seq ?_ | refine nw_seq ?_ | refine nw_block ?_ | refine cw_block ?_ | refine cw_skip ?_ | refine cw_region ?_ | refine cw_exit rfl ?_ | refine cw_true rfl ?_ | refine cw_false rfl ?_)
              refine x_false 92 rfl (by simp) ?_
              repeat (first | refine x_move rfl rfl rfl trivial ?_ | refine x_assign rfl rfl rfl trivial ?_ | refine x_add rfl rfl rfl (wrap_i64 (by omega) (by omega)) rfl trivial ?_ | refine x_sub_ rfl rfl rfl (wrap_i64 (by omega) (by omega)) rfl trivial ?_ | refine x_peqn rfl rfl rfl rfl trivial ?_ | refine x_ibin rfl rfl rfl rfl rfl trivial ?_ | refine x_len rfl rfl (by assumption) rfl trivial ?_ | refine x_pick_t rfl rfl rfl rfl trivial ?_ | refine x_pick_f rfl rfl rfl rfl trivial ?_ | refine x_not rfl rfl rfl trivial ?_ | refine x_extract rfl rfl rfl rfl trivial ?_ | refine x_nilCheck rfl rfl rfl trivial ?_ | refine x_fieldAddr rfl rfl rfl rfl trivial ?_ | refine x_skip trivial rfl rfl rfl ?_ | refine x_indexAddr1 rfl rfl rfl (by assumption) (by omega) (by omega) rfl trivial ?_ | refine x_indexAddr rfl rfl rfl (by assumption) (by omega) (by omega) rfl trivial ?_ | refine x_nil ?_ | refine cw_seq ?_ | refine nw_seq ?_ | refine nw_block ?_ | refine cw_block ?_ | refine cw_skip ?_ | refine cw_region ?_ | refine cw_exit rfl ?_ | refine cw_true rfl ?_ | refine cw_false rfl ?_)
              refine x_load rfl rfl (hpmt (e1)) rfl trivial ?_
              repeat (first | refine x_move rfl rfl rfl trivial ?_ | refine x_assign rfl rfl rfl trivial ?_ | refine x_add rfl rfl rfl (wrap_i64 (by omega) (by omega)) rfl trivial ?_ | refine x_sub_ rfl rfl rfl (wrap_i64 (by omega) (by omega)) rfl trivial ?_ | refine x_peqn rfl rfl rfl rfl trivial ?_ | refine x_ibin rfl rfl rfl rfl rfl trivial ?_ | refine x_len rfl rfl (by assumption) rfl trivial ?_ | refine x_pick_t rfl rfl rfl rfl trivial ?_ | refine x_pick_f rfl rfl rfl rfl trivial ?_ | refine x_not rfl rfl rfl trivial ?_ | refine x_extract rfl rfl rfl rfl trivial ?_ | refine x_nilCheck rfl rfl rfl trivial ?_ | refine x_fieldAddr rfl rfl rfl rfl trivial ?_ | refine x_skip trivial rfl rfl rfl ?_ | refine x_indexAddr1 rfl rfl rfl (by assumption) (by omega) (by omega) rfl trivial ?_ | refine x_indexAddr rfl rfl rfl (by assumption) (by omega) (by omega) rfl trivial ?_ | refine x_nil ?_ | refine cw_seq ?_ | refine nw_seq ?_ | refine nw_block ?_ | refine cw_block ?_ | refine cw_skip ?_ | refine cw_region ?_ | refine cw_exit rfl ?_ | refine cw_true rfl ?_ | refine cw_false rfl ?_)
              refine x_load rfl rfl (hpmt (cu7)) rfl trivial ?_
              repeat (first | refine x_move rfl rfl rfl trivial ?_ | refine x_assign rfl rfl rfl trivial ?_ | refine x_add rfl rfl rfl (wrap_i64 (by omega) (by omega)) rfl trivial ?_ | refine x_sub_ rfl rfl rfl (wrap_i64 (by omega) (by omega)) rfl trivial ?_ | refine x_peqn rfl rfl rfl rfl trivial ?_ | refine x_ibin rfl rfl rfl rfl rfl trivial ?_ | refine x_len rfl rfl (by assumption) rfl trivial ?_ | refine x_pick_t rfl rfl rfl rfl trivial ?_ | refine x_pick_f rfl rfl rfl rfl trivial ?_ | refine x_not rfl rfl rfl trivial ?_ | refine x_extract rfl rfl rfl rfl trivial ?_ | refine x_nilCheck rfl rfl rfl trivial ?_ | refine x_fieldAddr rfl rfl rfl rfl trivial ?_ | refine x_skip trivial rfl rfl rfl ?_ | refine x_indexAddr1 rfl rfl rfl (by assumption) (by omega) (by omega) rfl trivial ?_ | refine x_indexAddr rfl rfl rfl (by assumption) (by omega) (by omega) rfl trivial ?_ | refine x_nil ?_ | refine cw_seq ?_ | refine nw_seq ?_ | refine nw_block ?_ | refine cw_block ?_ | refine cw_skip ?_ | refine cw_region ?_ | refine cw_exit rfl ?_ | refine cw_true rfl ?_ | refine cw_false rfl ?_)
              refine x_load rfl rfl (hpmt (a2')) rfl trivial ?_
              repeat (first | refine x_move rfl rfl rfl trivial ?_ | refine x_assign rfl rfl rfl trivial ?_ | refine x_add rfl rfl rfl (wrap_i64 (by omega) (by omega)) rfl trivial ?_ | refine x_sub_ rfl rfl rfl (wrap_i64 (by omega) (by omega)) rfl trivial ?_ | refine x_peqn rfl rfl rfl rfl trivial ?_ | refine x_ibin rfl rfl rfl rfl rfl trivial ?_ | refine x_len rfl rfl (by assumption) rfl trivial ?_ | refine x_pick_t rfl rfl rfl rfl trivial ?_ | refine x_pick_f rfl rfl rfl rfl trivial ?_ | refine x_not rfl rfl rfl trivial ?_ | refine x_extract rfl rfl rfl rfl trivial ?_ | refine x_nilCheck rfl rfl rfl trivial ?_ | refine x_fieldAddr rfl rfl rfl rfl trivial ?_ | refine x_skip trivial rfl rfl rfl ?_ | refine x_indexAddr1 rfl rfl rfl (by assumption) (by omega) (by omega) rfl trivial ?_ | refine x_indexAddr rfl rfl rfl (by assumption) (by omega) (by omega) rfl trivial ?_ | refine x_nil ?_ | refine cw_seq ?_ | refine nw_seq ?_ | refine nw_block ?_ | refine cw_block ?_ | refine cw_skip ?_ | refine cw_region ?_ | refine cw_exit rfl ?_ | refine cw_true rfl ?_ | refine cw_false rfl ?_)
              refine x_false 113 rfl (by simp) ?_
              repeat (first | refine x_move rfl rfl rfl trivial ?_ | refine x_assign rfl rfl rfl trivial ?_ | refine x_add rfl rfl rfl (wrap_i64 (by omega) (by omega)) rfl trivial ?_ | refine x_sub_ rfl rfl rfl (wrap_i64 (by omega) (by omega)) rfl trivial ?_ | refine x_peqn rfl rfl rfl rfl trivial ?_ | refine x_ibin rfl rfl rfl rfl rfl trivial ?_ | refine x_len rfl rfl (by assumption) rfl trivial ?_ | refine x_pick_t rfl rfl rfl rfl trivial ?_ | refine x_pick_f rfl rfl rfl rfl trivial ?_ | refine x_not rfl rfl rfl trivial ?_ | refine x_extract rfl rfl rfl rfl trivial ?_ | refine x_nilCheck rfl rfl rfl trivial ?_ | refine x_fieldAddr rfl rfl rfl rfl trivial ?_ | refine x_skip trivial rfl rfl rfl ?_ | refine x_indexAddr1 rfl rfl rfl (by assumption) (by omega) (by omega) rfl trivial ?_ | refine x_indexAddr rfl rfl rfl (by assumption) (by omega) (by omega) rfl trivial ?_ | refine x_nil ?_ | refine cw_seq ?_ | refine nw_seq ?_ | refine nw_block ?_ | refine cw_block ?_ | refine cw_skip ?_ | refine cw_region ?_ | refine cw_exit rfl ?_ | refine cw_true rfl ?_ | refine cw_false rfl ?_)
              refine x_load rfl rfl (hpmt (e0)) rfl trivial ?_
              repeat (first | refine x_move rfl rfl rfl trivial ?_ | refine x_assign rfl rfl rfl trivial ?_ | refine x_add rfl rfl rfl (wrap_i64 (by omega) (by omega)) rfl trivial ?_ | refine x_sub_ rfl rfl rfl (wrap_i64 (by omega) (by omega)) rfl trivial ?_ | refine x_peqn rfl rfl rfl rfl trivial ?_ | refine x_ibin rfl rfl rfl rfl rfl trivial ?_ | refine x_len rfl rfl (by assumption) rfl trivial ?_ | refine x_pick_t rfl rfl rfl rfl trivial ?_ | refine x_pick_f rfl rfl rfl rfl trivial ?_ | refine x_not rfl rfl rfl trivial ?_ | refine x_extract rfl rfl rfl rfl trivial ?_ | refine x_nilCheck rfl rfl rfl trivial ?_ | refine x_fieldAddr rfl rfl rfl rfl trivial ?_ | refine x_skip trivial rfl rfl rfl ?_ | refine x_indexAddr1 rfl rfl rfl (by assumption) (by omega) (by omega) rfl trivial ?_ | refine x_indexAddr rfl rfl rfl (by assumption) (by omega) (by omega) rfl trivial ?_ | refine x_nil ?_ | refine cw_seq ?_ | refine nw_seq ?_ | refine nw_block ?_ | refine cw_block ?_ | refine cw_skip ?_ | refine cw_region ?_ | refine cw_exit rfl ?_ | refine cw_true rfl ?_ | refine cw_false rfl ?_)
              refine x_load rfl rfl (hpmt (cu7)) rfl trivial ?_
              repeat (first | refine x_move rfl rfl rfl trivial ?_ | refine x_assign rfl rfl rfl trivial ?_ | refine x_add rfl rfl rfl (wrap_i64 (by omega) (by omega)) rfl trivial ?_ | refine x_sub_ rfl rfl rfl (wrap_i64 (by omega) (by omega)) rfl trivial ?_ | refine x_peqn rfl rfl rfl rfl trivial ?_ | refine x_ibin rfl rfl rfl rfl rfl trivial ?_ | refine x_len rfl rfl (by assumption) rfl trivial ?_ | refine x_pick_t rfl rfl rfl rfl trivial ?_ | refine x_pick_f rfl rfl rfl rfl trivial ?_ | refine x_not rfl rfl rfl trivial ?_ | refine x_extract rfl rfl rfl rfl trivial ?_ | refine x_nilCheck rfl rfl rfl trivial ?_ | refine x_fieldAddr rfl rfl rfl rfl trivial ?_ | refine x_skip trivial rfl rfl rfl ?_ | refine x_indexAddr1 rfl rfl rfl (by assumption) (by omega) (by omega) rfl trivial ?_ | refine x_indexAddr rfl rfl rfl (by assumption) (by omega) (by omega) rfl trivial ?_ | refine x_nil ?_ | refine cw_seq ?_ | refine nw_seq ?_ | refine nw_block ?_ | refine cw_block ?_ | refine cw_skip ?_ | refine cw_region ?_ | refine cw_exit rfl ?_ | refine cw_true rfl ?_ | refine cw_false rfl ?_)
              refine x_load rfl rfl (hpmt (a1')) rfl trivial ?_
              repeat (first | refine x_move rfl rfl rfl trivial ?_ | refine x_assign rfl rfl rfl trivial ?_ | refine x_add rfl rfl rfl (wrap_i64 (by omega) (by omega)) rfl trivial ?_ | refine x_sub_ rfl rfl rfl (wrap_i64 (by omega) (by omega)) rfl trivial ?_ | refine x_peqn rfl rfl rfl rfl trivial ?_ | refine x_ibin rfl rfl rfl rfl rfl trivial ?_ | refine x_len rfl rfl (by assumption) rfl trivial ?_ | refine x_pick_t rfl rfl rfl rfl trivial ?_ | refine x_pick_f rfl rfl rfl rfl trivial ?_ | refine x_not rfl rfl rfl trivial ?_ | refine x_extract rfl rfl rfl rfl trivial ?_ | refine x_nilCheck rfl rfl rfl trivial ?_ | refine x_fieldAddr rfl rfl rfl rfl trivial ?_ | refine x_skip trivial rfl rfl rfl ?_ | refine x_indexAddr1 rfl rfl rfl (by assumption) (by omega) (by omega) rfl trivial ?_ | refine x_indexAddr rfl rfl rfl (by assumption) (by omega) (by omega) rfl trivial ?_ | refine x_nil ?_ | refine cw_seq ?_ | refine nw_seq ?_ | refine nw_block ?_ | refine cw_block ?_ | refine cw_skip ?_ | refine cw_region ?_ | refine cw_exit rfl ?_ | refine cw_true rfl ?_ | refine cw_false rfl ?_)
              refine x_callq rfl rfl rfl ((law_SameBytes hC7 a3').mono fun _ _ h => ⟨h.1.symm, h.2⟩) ?_
              repeat (first | refine x_move rfl rfl rfl trivial ?_ | refine x_assign rfl rfl rfl trivial ?_ | refine x_add rfl rfl rfl (wrap_i64 (by omega) (by omega)) rfl trivial ?_ | refine x_sub_ rfl rfl rfl (wrap_i64 (by omega) (by omega)) rfl trivial ?_ | refine x_peqn rfl rfl rfl rfl trivial ?_ | refine x_ibin rfl rfl rfl rfl rfl trivial ?_ | refine x_len rfl rfl (by assumption) rfl trivial ?_ | refine x_pick_t rfl rfl rfl rfl trivial ?_ | refine x_pick_f rfl rfl rfl rfl trivial ?_ | refine x_not rfl rfl rfl trivial ?_ | refine x_extract rfl rfl rfl rfl trivial ?_ | refine x_nilCheck rfl rfl rfl trivial ?_ | refine x_fieldAddr rfl rfl rfl rfl trivial ?_ | refine x_skip trivial rfl rfl rfl ?_ | refine x_indexAddr1 rfl rfl rfl (by assumption) (by omega) (by omega) rfl trivial ?_ | refine x_indexAddr rfl rfl rfl (by assumption) (by omega) (by omega) rfl trivial ?_ | refine x_nil ?_ | refine cw_seq ?_ | refine nw_seq ?_ | refine nw_block ?_ | refine cw_block ?_ | refine cw_skip ?_ | refine cw_region ?_ | refine cw_exit rfl ?_ | refine cw_true rfl ?_ | refine cw_false rfl ?_)
              refine nw_meet () ⟨rfl, rfl, rfl, rfl, rfl, ?_, trivial⟩ rfl
              show some (Value.bool (!(p.1 == p.1))) = some (Value.bool false)
              simp
            · rintro _ _ rfl
              repeat (first | refine x_move rfl rfl rfl trivial ?_ | refine x_assign rfl rfl rfl trivial ?_ | refine x_add rfl rfl rfl (wrap_i64 (by omega) (by omega)) rfl trivial ?_ | refine x_sub_ rfl rfl rfl (wrap_i64 (by omega) (by omega)) rfl trivial ?_ | refine x_peqn rfl rfl rfl rfl trivial ?_ | refine x_ibin rfl rfl rfl rfl rfl trivial ?_ | refine x_len rfl rfl (by assumption) rfl trivial ?_ | refine x_pick_t rfl rfl rfl rfl trivial ?_ | refine x_pick_f rfl rfl rfl rfl trivial ?_ | refine x_not rfl rfl rfl trivial ?_ | refine x_extract rfl rfl rfl rfl trivial ?_ | refine x_nilCheck rfl rfl rfl trivial ?_ | refine x_fieldAddr rfl rfl rfl rfl trivial ?_ | refine x_skip trivial rfl rfl rfl ?_ | refine x_indexAddr1 rfl rfl rfl (by assumption) (by omega) (by omega) rfl trivial ?_ | refine x_indexAddr rfl rfl rfl (by assumption) (by omega) (by omega) rfl trivial ?_ | refine x_nil ?_ | refine cw_seq ?_ | refine nw_seq ?_ | refine nw_block ?_ | refine cw_block ?_ | refine cw_skip ?_ | refine cw_region ?_ | refine cw_exit rfl ?_ | refine cw_true rfl ?_ | refine cw_false rfl ?_)
              exact nw_round (i + 1) (by repeat (first | exact True.intro | refine ⟨rfl, ?_⟩)) ⟨by omega, hk3.non_trans hk37⟩ (by omega)
      · have hie : i = w.length := by omega
        subst hie
        rw [Nat.min_eq_right hrk]
        repeat (first | refine x_move rfl rfl rfl trivial ?_ | refine x_assign rfl rfl rfl trivial ?_ | refine x_add rfl rfl rfl (wrap_i64 (by omega) (by omega)) rfl trivial ?_ | refine x_sub_ rfl rfl rfl (wrap_i64 (by omega) (by omega)) rfl trivial ?_ | refine x_peqn rfl rfl rfl rfl trivial ?_ | refine x_ibin rfl rfl rfl rfl rfl trivial ?_ | refine x_len rfl rfl (by assumption) rfl trivial ?_ | refine x_pick_t rfl rfl rfl rfl trivial ?_ | refine x_pick_f rfl rfl rfl rfl trivial ?_ | refine x_not rfl rfl rfl trivial ?_ | refine x_extract rfl rfl rfl rfl trivial ?_ | refine x_nilCheck rfl rfl rfl trivial ?_ | refine x_fieldAddr rfl rfl rfl rfl trivial ?_ | refine x_skip trivial rfl rfl rfl ?_ | refine x_indexAddr1 rfl rfl rfl (by assumption) (by omega) (by omega) rfl trivial ?_ | refine x_indexAddr rfl rfl rfl (by assumption) (by omega) (by omega) rfl trivial ?_ | refine x_nil ?_ | refine cw_seq ?_ | refine nw_seq ?_ | refine nw_block ?_ | refine cw_block ?_ | refine cw_skip ?_ | refine cw_region ?_ | refine cw_exit rfl ?_ | refine cw_true rfl ?_ | refine cw_false rfl ?_)
        refine x_call rfl rfl rfl trivial (shelf_Find hS3 hK3) ?_
        rintro _ H4 ⟨hk4, rfl⟩
        refine ⟨trivial, ?_⟩
        have hS4 := hS3.keepN hk4
        have hk14 := hk13.non_trans hk4
        repeat (first | refine x_move rfl rfl rfl trivial ?_ | refine x_assign rfl rfl rfl trivial ?_ | refine x_add rfl rfl rfl (wrap_i64 (by omega) (by omega)) rfl trivial ?_ | refine x_sub_ rfl rfl rfl (wrap_i64 (by omega) (by omega)) rfl trivial ?_ | refine x_peqn rfl rfl rfl rfl trivial ?_ | refine x_ibin rfl rfl rfl rfl rfl trivial ?_ | refine x_len rfl rfl (by assumption) rfl trivial ?_ | refine x_pick_t rfl rfl rfl rfl trivial ?_ | refine x_pick_f rfl rfl rfl rfl trivial ?_ | refine x_not rfl rfl rfl trivial ?_ | refine x_extract rfl rfl rfl rfl trivial ?_ | refine x_nilCheck rfl rfl rfl trivial ?_ | refine x_fieldAddr rfl rfl rfl rfl trivial ?_ | refine x_skip trivial rfl rfl rfl ?_ | refine x_indexAddr1 rfl rfl rfl (by assumption) (by omega) (by omega) rfl trivial ?_ | refine x_indexAddr rfl rfl rfl (by assumption) (by omega) (by omega) rfl trivial ?_ | refine x_nil ?_ | refine cw_seq ?_ | refine nw_seq ?_ | refine nw_block ?_ | refine cw_block ?_ | refine cw_skip ?_ | refine cw_region ?_ | refine cw_exit rfl ?_ | refine cw_true rfl ?_ | refine cw_false rfl ?_)
        refine cw_loop (fun j : Nat => [(5, ptr wb 0), (6, ptr s 0), (7, .int .i64 (rank w k)), (13, .int .i64 (rank w k)), (15, .int .i64 j)]) (fun j H' => j ≤ w.length ∧ Keep Non H1 H' ∧ Sh K H' s (w.drop j)) (fun j => w.length - j) 0 (by repeat (first | exact True.intro | refine ⟨rfl, ?_⟩)) ⟨Nat.zero_le _, hk14, by rw [List.drop_zero]; exact hS4⟩ ?_
        rintro j H5 ⟨hj, hk5, hS5⟩
        have hP5 := hPu.keepN hk5
        have cu5 := hk5.cel cu (fun h => h)
        repeat (first | refine x_move rfl rfl rfl trivial ?_ | refine x_assign rfl rfl rfl trivial ?_ | refine x_add rfl rfl rfl (wrap_i64 (by omega) (by omega)) rfl trivial ?_ | refine x_sub_ rfl rfl rfl (wrap_i64 (by omega) (by omega)) rfl trivial ?_ | refine x_peqn rfl rfl rfl rfl trivial ?_ | refine x_ibin rfl rfl rfl rfl rfl trivial ?_ | refine x_len rfl rfl (by assumption) rfl trivial ?_ | refine x_pick_t rfl rfl rfl rfl trivial ?_ | refine x_pick_f rfl rfl rfl rfl trivial ?_ | refine x_not rfl rfl rfl trivial ?_ | refine x_extract rfl rfl rfl rfl trivial ?_ | refine x_nilCheck rfl rfl rfl trivial ?_ | refine x_fieldAddr rfl rfl rfl rfl trivial ?_ | refine x_skip trivial rfl rfl rfl ?_ | refine x_indexAddr1 rfl rfl rfl (by assumption) (by omega) (by omega) rfl trivial ?_ | refine x_indexAddr rfl rfl rfl (by assumption) (by omega) (by omega) rfl trivial ?_ | refine x_nil ?_ | refine cw_seq ?_ | refine nw_seq ?_ | refine nw_block ?_ | refine cw_block ?_ | refine cw_skip ?_ | refine cw_region ?_ | refine cw_exit rfl ?_ | refine cw_true rfl ?_ | refine cw_false rfl ?_)
        refine x_load rfl rfl (hpmt (cu5)) rfl trivial ?_
        repeat (first | refine x_move rfl rfl rfl trivial ?_ | refine x_assign rfl rfl rfl trivial ?_ | refine x_add rfl rfl rfl (wrap_i64 (by omega) (by omega)) rfl trivial ?_ | refine x_sub_ rfl rfl rfl (wrap_i64 (by omega) (by omega)) rfl trivial ?_ | refine x_peqn rfl rfl rfl rfl trivial ?_ | refine x_ibin rfl rfl rfl rfl rfl trivial ?_ | refine x_len rfl rfl (by assumption) rfl trivial ?_ | refine x_pick_t rfl rfl rfl rfl trivial ?_ | refine x_pick_f rfl rfl rfl rfl trivial ?_ | refine x_not rfl rfl rfl trivial ?_ | refine x_extract rfl rfl rfl rfl trivial ?_ | refine x_nilCheck rfl rfl rfl trivial ?_ | refine x_fieldAddr rfl rfl rfl rfl trivial ?_ | refine x_skip trivial rfl rfl rfl ?_ | refine x_indexAddr1 rfl rfl rfl (by assumption) (by omega) (by omega) rfl trivial ?_ | refine x_indexAddr rfl rfl rfl (by assumption) (by omega) (by omega) rfl trivial ?_ | refine x_nil ?_ | refine cw_seq ?_ | refine nw_seq ?_ | refine nw_block ?_ | refine cw_block ?_ | refine cw_skip ?_ | refine cw_region ?_ | refine cw_exit rfl ?_ | refine cw_true rfl ?_ | refine cw_false rfl ?_)
        refine cw_cond rfl (fun h5 => ?_) (fun h5 => ?_) <;> (try simp at h5)
        · obtain ⟨p, hp⟩ := getp (l := w) h5
          obtain ⟨kw, a1, a2, a3⟩ := hP5.at_ _ _ hp
          obtain ⟨r1, r2, r3⟩ := drop_head hwr hp
          repeat (first | refine x_move rfl rfl rfl trivial ?_ | refine x_assign rfl rfl rfl trivial ?_ | refine x_add rfl rfl rfl (wrap_i64 (by omega) (by omega)) rfl trivial ?_ | refine x_sub_ rfl rfl rfl (wrap_i64 (by omega) (by omega)) rfl trivial ?_ | refine x_peqn rfl rfl rfl rfl trivial ?_ | refine x_ibin rfl rfl rfl rfl rfl trivial ?_ | refine x_len rfl rfl (by assumption) rfl trivial ?_ | refine x_pick_t rfl rfl rfl rfl trivial ?_ | refine x_pick_f rfl rfl rfl rfl trivial ?_ | refine x_not rfl rfl rfl trivial ?_ | refine x_extract rfl rfl rfl rfl trivial ?_ | refine x_nilCheck rfl rfl rfl trivial ?_ | refine x_fieldAddr rfl rfl rfl rfl trivial ?_ | refine x_skip trivial rfl rfl rfl ?_ | refine x_indexAddr1 rfl rfl rfl (by assumption) (by omega) (by omega) rfl trivial ?_ | refine x_indexAddr rfl rfl rfl (by assumption) (by omega) (by omega) rfl trivial ?_ | refine x_nil ?_ | refine cw_seq ?_ | refine nw_seq ?_ | refine nw_block ?_ | refine cw_block ?_ | refine cw_skip ?_ | refine cw_region ?_ | refine cw_exit rfl ?_ | refine cw_true rfl ?_ | refine cw_false rfl ?_)
          refine x_load rfl rfl (hpmt (cu5)) rfl trivial ?_
          repeat (first | refine x_move rfl rfl rfl trivial ?_ | refine x_assign rfl rfl rfl trivial ?_ | refine x_add rfl rfl rfl (wrap_i64 (by omega) (by omega)) rfl trivial ?_ | refine x_sub_ rfl rfl rfl (wrap_i64 (by omega) (by omega)) rfl trivial ?_ | refine x_peqn rfl rfl rfl rfl trivial ?_ | refine x_ibin rfl rfl rfl rfl rfl trivial ?_ | refine x_len rfl rfl (by assumption) rfl trivial ?_ | refine x_pick_t rfl rfl rfl rfl trivial ?_ | refine x_pick_f rfl rfl rfl rfl trivial ?_ | refine x_not rfl rfl rfl trivial ?_ | refine x_extract rfl rfl rfl rfl trivial ?_ | refine x_nilCheck rfl rfl rfl trivial ?_ | refine x_fieldAddr rfl rfl rfl rfl trivial ?_ | refine x_skip trivial rfl rfl rfl ?_ | refine x_indexAddr1 rfl rfl rfl (by assumption) (by omega) (by omega) rfl trivial ?_ | refine x_indexAddr rfl rfl rfl (by assumption) (by omega) (by omega) rfl trivial ?_ | refine x_nil ?_ | refine cw_seq ?_ | refine nw_seq ?_ | refine nw_block ?_ | refine cw_block ?_ | refine cw_skip ?_ | refine cw_region ?_ | refine cw_exit rfl ?_ | refine cw_true rfl ?_ | refine cw_false rfl ?_)
          refine x_load rfl rfl (hpmt (a1)) rfl trivial ?_
          refine x_call rfl rfl rfl trivial (shelf_Drop hS5 a3) ?_
          rintro _ H6 ⟨rfl, hk6, hS6⟩
          refine ⟨trivial, ?_⟩
          rw [r1] at hS6
          rw [r2, r3]
          have hk16 : Keep Non H1 H6 := hF.keep hk5 hk6 (fun x e => by rcases e with e | e <;> omega)
          have hP6 := hPu.keepN hk16
          have cu6 := hk16.cel cu (fun h => h)
          obtain ⟨kw', a1', a2', a3'⟩ := hP6.at_ _ _ hp
          repeat (first | refine x_move rfl rfl rfl trivial ?_ | refine x_assign rfl rfl rfl trivial ?_ | refine x_add rfl rfl rfl (wrap_i64 (by omega) (by omega)) rfl trivial ?_ | refine x_sub_ rfl rfl rfl (wrap_i64 (by omega) (by omega)) rfl trivial ?_ | refine x_ibin rfl rfl rfl rfl rfl trivial ?_ | refine x_len rfl rfl (by assumption) rfl trivial ?_ | refine x_pick_t rfl rfl rfl rfl trivial ?_ | refine x_pick_f rfl rfl rfl rfl trivial ?_ | refine x_not rfl rfl rfl trivial ?_ | refine x_extract rfl rfl rfl rfl trivial ?_ | refine x_nilCheck rfl rfl rfl trivial ?_ | refine x_fieldAddr rfl rfl rfl rfl trivial ?_ | refine x_skip trivial rfl rfl rfl ?_ | refine x_indexAddr1 rfl rfl rfl (by assumption) (by omega) (by omega) rfl trivial ?_ | refine x_indexAddr rfl rfl rfl (by assumption) (by omega) (by omega) rfl trivial ?_ | refine x_nil ?_ | refine cw_seq ?_ | refine nw_seq ?_ | refine nw_block ?_ | refine cw_block ?_ | refine cw_skip ?_ | refine cw_exit rfl ?_ | refine cw_true rfl ?_ | refine cw_false rfl ?_)
          refine cw_cut (fun _ : Unit => [(5, ptr wb 0), (6, ptr s 0), (7, .int .i64 (rank w k)), (13, .int .i64 (rank w k)), (15, .int .i64 j), (181, .bool false)]) (fun _ H' => H6 = H') ?_ ?_
          · refine cw_quiet mixed (by kernel_rfl) ?_
            repeat (first | refine x_move rfl rfl rfl trivial ?_ | refine x_assign rfl rfl rfl trivial ?_ | refine x_add rfl rfl rfl (wrap_i64 (by omega) (by omega)) rfl trivial ?_ | refine x_sub_ rfl rfl rfl (wrap_i64 (by omega) (by omega)) rfl trivial ?_ | refine x_peqn rfl rfl rfl rfl trivial ?_ | refine x_ibin rfl rfl rfl rfl rfl trivial ?_ | refine x_len rfl rfl (by assumption) rfl trivial ?_ | refine x_pick_t rfl rfl rfl rfl trivial ?_ | refine x_pick_f rfl rfl rfl rfl trivial ?_ | refine x_not rfl rfl rfl trivial ?_ | refine x_extract rfl rfl rfl rfl trivial ?_ | refine x_nilCheck rfl rfl rfl trivial ?_ | refine x_fieldAddr rfl rfl rfl rfl trivial ?_ | refine x_skip trivial rfl rfl rfl ?_ | refine x_indexAddr1 rfl rfl rfl (by assumption) (by omega) (by omega) rfl trivial ?_ | refine x_indexAddr rfl rfl rfl (by assumption) (by omega) (by omega) rfl trivial ?_ | refine x_nil ?_ | refine cw_seq ?_ | refine nw_seq ?_ | refine nw_block ?_ | refine cw_block ?_ | refine cw_skip ?_ | refine cw_region ?_ | refine cw_exit rfl ?_ | refine cw_true rfl ?_ | refine cw_false rfl ?_)
            refine x_load rfl rfl (hpmt (cu6)) rfl trivial ?_
            repeat (first | refine x_move rfl rfl rfl trivial ?_ | refine x_assign rfl rfl rfl trivial ?_ | refine x_add rfl rfl rfl (wrap_i64 (by omega) (by omega)) rfl trivial ?_ | refine x_sub_ rfl rfl rfl (wrap_i64 (by omega) (by omega)) rfl trivial ?_ | refine x_peqn rfl rfl rfl rfl trivial ?_ | refine x_ibin rfl rfl rfl rfl rfl trivial ?_ | refine x_len rfl rfl (by assumption) rfl trivial ?_ | refine x_pick_t rfl rfl rfl rfl trivial ?_ | refine x_pick_f rfl rfl rfl rfl trivial ?_ | refine x_not rfl rfl rfl trivial ?_ | refine x_extract rfl rfl rfl rfl trivial ?_ | refine x_nilCheck rfl rfl rfl trivial ?_ | refine x_fieldAddr rfl rfl rfl rfl trivial ?_ | refine x_skip trivial rfl rfl rfl ?_ | refine x_indexAddr1 rfl rfl rfl (by assumption) (by omega) (by omega) rfl trivial ?_ | refine x_indexAddr rfl rfl rfl (by assumption) (by omega) (by omega) rfl trivial ?_ | refine x_nil ?_ | refine cw_seq ?_ | refine nw_seq ?_ | refine nw_block ?_ | refine cw_block ?_ | refine cw_skip ?_ | refine cw_region ?_ | refine cw_exit rfl ?_ | refine cw_true rfl ?_ | refine cw_false rfl ?_)
            refine x_load rfl rfl (hpmt (a2')) rfl trivial ?_
            repeat (first | refine x_move rfl rfl rfl trivial ?_ | refine x_assign rfl rfl rfl trivial ?_ | refine x_add rfl rfl rfl (wrap_i64 (by omega) (by omega)) rfl trivial ?_ | refine x_sub_ rfl rfl rfl (wrap_i64 (by omega) (by omega)) rfl trivial ?_ | refine x_peqn rfl rfl rfl rfl trivial ?_ | refine x_ibin rfl rfl rfl rfl rfl trivial ?_ | refine x_len rfl rfl (by assumption) rfl trivial ?_ | refine x_pick_t rfl rfl rfl rfl trivial ?_ | refine x_pick_f rfl rfl rfl rfl trivial ?_ | refine x_not rfl rfl rfl trivial ?_ | refine x_extract rfl rfl rfl rfl trivial ?_ | refine x_nilCheck rfl rfl rfl trivial ?_ | refine x_fieldAddr rfl rfl rfl rfl trivial ?_ | refine x_skip trivial rfl rfl rfl ?_ | refine x_indexAddr1 rfl rfl rfl (by assumption) (by omega) (by omega) rfl trivial ?_ | refine x_indexAddr rfl rfl rfl (by assumption) (by omega) (by omega) rfl trivial ?_ | refine x_nil ?_ | refine cw_seq ?_ | refine nw_seq ?_ | refine nw_block ?_ | refine cw_block ?_ | refine cw_skip ?_ | refine cw_region ?_ | refine cw_exit rfl ?_ | refine cw_true rfl ?_ | refine cw_false rfl ?_)
            refine x_false 165 rfl (by simp) ?_
            repeat (first | refine x_move rfl rfl rfl trivial ?_ | refine x_assign rfl rfl rfl trivial ?_ | refine x_add rfl rfl rfl (wrap_i64 (by omega) (by omega)) rfl trivial ?_ | refine x_sub_ rfl rfl rfl (wrap_i64 (by omega) (by omega)) rfl trivial ?_ | refine x_peqn rfl rfl rfl rfl trivial ?_ | refine x_ibin rfl rfl rfl rfl rfl trivial ?_ | refine x_len rfl rfl (by assumption) rfl trivial ?_ | refine x_pick_t rfl rfl rfl rfl trivial ?_ | refine x_pick_f rfl rfl rfl rfl trivial ?_ | refine x_not rfl rfl rfl trivial ?_ | refine x_extract rfl rfl rfl rfl trivial ?_ | refine x_nilCheck rfl rfl rfl trivial ?_ | refine x_fieldAddr rfl rfl rfl rfl trivial ?_ | refine x_skip trivial rfl rfl rfl ?_ | refine x_indexAddr1 rfl rfl rfl (by assumption) (by omega) (by omega) rfl trivial ?_ | refine x_indexAddr rfl rfl rfl (by assumption) (by omega) (by omega) rfl trivial ?_ | refine x_nil ?_ | refine cw_seq ?_ | refine nw_seq ?_ | refine nw_block ?_ | refine cw_block ?_ | refine cw_skip ?_ | refine cw_region ?_ | refine cw_exit rfl ?_ | refine cw_true rfl ?_ | refine cw_false rfl ?_)
            refine x_callq rfl rfl rfl ((shelf_Len hS6).mono fun _ _ h => ⟨h.1.symm, h.2⟩) ?_
            repeat (first | refine x_move rfl rfl rfl trivial ?_ | refine x_assign rfl rfl rfl trivial ?_ | refine x_add rfl rfl rfl (wrap_i64 (by omega) (by omega)) rfl trivial ?_ | refine x_sub_ rfl rfl rfl (wrap_i64 (by omega) (by omega)) rfl trivial ?_ | refine x_peqn rfl rfl rfl rfl trivial ?_ | refine x_ibin rfl rfl rfl rfl rfl trivial ?_ | refine x_len rfl rfl (by assumption) rfl trivial ?_ | refine x_pick_t rfl rfl rfl rfl trivial ?_ | refine x_pick_f rfl rfl rfl rfl trivial ?_ | refine x_not rfl rfl rfl trivial ?_ | refine x_extract rfl rfl rfl rfl trivial ?_ | refine x_nilCheck rfl rfl rfl trivial ?_ | refine x_fieldAddr rfl rfl rfl rfl trivial ?_ | refine x_skip trivial rfl rfl rfl ?_ | refine x_indexAddr1 rfl rfl rfl (by assumption) (by omega) (by omega) rfl trivial ?_ | refine x_indexAddr rfl rfl rfl (by assumption) (by omega) (by omega) rfl trivial ?_ | refine x_nil ?_ | refine cw_seq ?_ | refine nw_seq ?_ | refine nw_block ?_ | refine cw_block ?_ | refine cw_skip ?_ | refine cw_region ?_ | refine cw_exit rfl ?_ | refine cw_true rfl ?_ | refine cw_false rfl ?_)
            refine x_load rfl rfl (hpmt (cu6)) rfl trivial ?_
            repeat (first | refine x_move rfl rfl rfl trivial ?_ | refine x_assign rfl rfl rfl trivial ?_ | refine x_add rfl rfl rfl (wrap_i64 (by omega) (by omega)) rfl trivial ?_ | refine x_sub_ rfl rfl rfl (wrap_i64 (by omega) (by omega)) rfl trivial ?_ | refine x_peqn rfl rfl rfl rfl trivial ?_ | refine x_ibin rfl rfl rfl rfl rfl trivial ?_ | refine x_len rfl rfl (by assumption) rfl trivial ?_ | refine x_pick_t rfl rfl rfl rfl trivial ?_ | refine x_pick_f rfl rfl rfl rfl trivial ?_ | refine x_not rfl rfl rfl trivial ?_ | refine x_extract rfl rfl rfl rfl trivial ?_ | refine x_nilCheck rfl rfl rfl trivial ?_ | refine x_fieldAddr rfl rfl rfl rfl trivial ?_ | refine x_skip trivial rfl rfl rfl ?_ | refine x_indexAddr1 rfl rfl rfl (by assumption) (by omega) (by omega) rfl trivial ?_ | refine x_indexAddr rfl rfl rfl (by assumption) (by omega) (by omega) rfl trivial ?_ | refine x_nil ?_ | refine cw_seq ?_ | refine nw_seq ?_ | refine nw_block ?_ | refine cw_block ?_ | refine cw_skip ?_ | refine cw_region ?_ | refine cw_exit rfl ?_ | refine cw_true rfl ?_ | refine cw_false rfl ?_)
            refine nw_meet () ⟨rfl, rfl, rfl, rfl, rfl, ?_, trivial⟩ rfl
            show some (Value.bool (((w.drop (j + 1)).length : Int) != (w.length : Int) - 1 - (j : Int))) = some (Value.bool false)
            have : ((w.drop (j + 1)).length : Int) = (w.length : Int) - 1 - (j : Int) := by rw [List.length_drop]; omega
            rw [this]
            simp
          · rintro _ _ rfl
            repeat (first | refine x_move rfl rfl rfl trivial ?_ | refine x_assign rfl rfl rfl trivial ?_ | refine x_add rfl rfl rfl (wrap_i64 (by omega) (by omega)) rfl trivial ?_ | refine x_sub_ rfl rfl rfl (wrap_i64 (by omega) (by omega)) rfl trivial ?_ | refine x_peqn rfl rfl rfl rfl trivial ?_ | refine x_ibin rfl rfl rfl rfl rfl trivial ?_ | refine x_len rfl rfl (by assumption) rfl trivial ?_ | refine x_pick_t rfl rfl rfl rfl trivial ?_ | refine x_pick_f rfl rfl rfl rfl trivial ?_ | refine x_not rfl rfl rfl trivial ?_ | refine x_extract rfl rfl rfl rfl trivial ?_ | refine x_nilCheck rfl rfl rfl trivial ?_ | refine x_fieldAddr rfl rfl rfl rfl trivial ?_ | refine x_skip trivial rfl rfl rfl ?_ | refine x_indexAddr1 rfl rfl rfl (by assumption) (by omega) (by omega) rfl trivial ?_ | refine x_indexAddr rfl rfl rfl (by assumption) (by omega) (by omega) rfl trivial ?_ | refine x_nil ?_ | refine cw_seq ?_ | refine nw_seq ?_ | refine nw_block ?_ | refine cw_block ?_ | refine cw_skip ?_ | refine cw_region ?_ | refine cw_exit rfl ?_ | refine cw_true rfl ?_ | refine cw_false rfl ?_)
            exact nw_round (j + 1) (by repeat (first | exact True.intro | refine ⟨rfl, ?_⟩)) ⟨by omega, hk16, hS6⟩ (by omega)
        · have hje : j = w.length := by omega
          subst hje
          rw [List.drop_length] at hS5
          repeat (first | refine x_move rfl rfl rfl trivial ?_ | refine x_assign rfl rfl rfl trivial ?_ | refine x_add rfl rfl rfl (wrap_i64 (by omega) (by omega)) rfl trivial ?_ | refine x_sub_ rfl rfl rfl (wrap_i64 (by omega) (by omega)) rfl trivial ?_ | refine x_peqn rfl rfl rfl rfl trivial ?_ | refine x_ibin rfl rfl rfl rfl rfl trivial ?_ | refine x_len rfl rfl (by assumption) rfl trivial ?_ | refine x_pick_t rfl rfl rfl rfl trivial ?_ | refine x_pick_f rfl rfl rfl rfl trivial ?_ | refine x_not rfl rfl rfl trivial ?_ | refine x_extract rfl rfl rfl rfl trivial ?_ | refine x_nilCheck rfl rfl rfl trivial ?_ | refine x_fieldAddr rfl rfl rfl rfl trivial ?_ | refine x_skip trivial rfl rfl rfl ?_ | refine x_indexAddr1 rfl rfl rfl (by assumption) (by omega) (by omega) rfl trivial ?_ | refine x_indexAddr rfl rfl rfl (by assumption) (by omega) (by omega) rfl trivial ?_ | refine x_nil ?_ | refine cw_seq ?_ | refine nw_seq ?_ | refine nw_block ?_ | refine cw_block ?_ | refine cw_skip ?_ | refine cw_region ?_ | refine cw_exit rfl ?_ | refine cw_true rfl ?_ | refine cw_false rfl ?_)
          refine x_call rfl rfl rfl trivial (shelf_At 0 hS5) ?_
          rintro _ H6 ⟨hk6, c6, rfl, hc6, hf6⟩
          refine ⟨trivial, ?_⟩
          have hsel : selI [] 0 = none := rfl
          rw [hsel] at hc6 ⊢
          repeat (first | refine x_move rfl rfl rfl trivial ?_ | refine x_assign rfl rfl rfl trivial ?_ | refine x_add rfl rfl rfl (wrap_i64 (by omega) (by omega)) rfl trivial ?_ | refine x_sub_ rfl rfl rfl (wrap_i64 (by omega) (by omega)) rfl trivial ?_ | refine x_peqn rfl rfl rfl rfl trivial ?_ | refine x_ibin rfl rfl rfl rfl rfl trivial ?_ | refine x_len rfl rfl (by assumption) rfl trivial ?_ | refine x_pick_t rfl rfl rfl rfl trivial ?_ | refine x_pick_f rfl rfl rfl rfl trivial ?_ | refine x_not rfl rfl rfl trivial ?_ | refine x_extract rfl rfl rfl rfl trivial ?_ | refine x_nilCheck rfl rfl rfl trivial ?_ | refine x_fieldAddr rfl rfl rfl rfl trivial ?_ | refine x_skip trivial rfl rfl rfl ?_ | refine x_indexAddr1 rfl rfl rfl (by assumption) (by omega) (by omega) rfl trivial ?_ | refine x_indexAddr rfl rfl rfl (by assumption) (by omega) (by omega) rfl trivial ?_ | refine x_nil ?_ | refine cw_seq ?_ | refine nw_seq ?_ | refine nw_block ?_ | refine cw_block ?_ | refine cw_skip ?_ | refine cw_region ?_ | refine cw_exit rfl ?_ | refine cw_true rfl ?_ | refine cw_false rfl ?_)
          refine x_alloc rfl rfl trivial ?_
          intro H7 hn7
          refine ⟨trivial, ?_⟩
          refine x_stores (cs := [c6, .int .u64 0]) rfl rfl rfl rfl (two_oneC' (isSl_oneC hc6.sl)) hn7.blk (by simp) trivial ?_
          intro H8 hB8 hk8 hs8
          refine ⟨trivial, ?_⟩
          have hk68 : Keep Non H6 H8 := keep_at hn7.keep hk8 (Nat.le_refl _)
          repeat (first | refine x_move rfl rfl rfl trivial ?_ | refine x_assign rfl rfl rfl trivial ?_ | refine x_add rfl rfl rfl (wrap_i64 (by omega) (by omega)) rfl trivial ?_ | refine x_sub_ rfl rfl rfl (wrap_i64 (by omega) (by omega)) rfl trivial ?_ | refine x_peqn rfl rfl rfl rfl trivial ?_ | refine x_ibin rfl rfl rfl rfl rfl trivial ?_ | refine x_len rfl rfl (by assumption) rfl trivial ?_ | refine x_pick_t rfl rfl rfl rfl trivial ?_ | refine x_pick_f rfl rfl rfl rfl trivial ?_ | refine x_not rfl rfl rfl trivial ?_ | refine x_extract rfl rfl rfl rfl trivial ?_ | refine x_nilCheck rfl rfl rfl trivial ?_ | refine x_fieldAddr rfl rfl rfl rfl trivial ?_ | refine x_skip trivial rfl rfl rfl ?_ | refine x_indexAddr1 rfl rfl rfl (by assumption) (by omega) (by omega) rfl trivial ?_ | refine x_indexAddr rfl rfl rfl (by assumption) (by omega) (by omega) rfl trivial ?_ | refine x_nil ?_ | refine cw_seq ?_ | refine nw_seq ?_ | refine nw_block ?_ | refine cw_block ?_ | refine cw_skip ?_ | refine cw_region ?_ | refine cw_exit rfl ?_ | refine cw_true rfl ?_ | refine cw_false rfl ?_)
          refine x_true 190 rfl (by simp) ?_
          repeat (first | refine x_move rfl rfl rfl trivial ?_ | refine x_assign rfl rfl rfl trivial ?_ | refine x_add rfl rfl rfl (wrap_i64 (by omega) (by omega)) rfl trivial ?_ | refine x_sub_ rfl rfl rfl (wrap_i64 (by omega) (by omega)) rfl trivial ?_ | refine x_peqn rfl rfl rfl rfl trivial ?_ | refine x_ibin rfl rfl rfl rfl rfl trivial ?_ | refine x_len rfl rfl (by assumption) rfl trivial ?_ | refine x_pick_t rfl rfl rfl rfl trivial ?_ | refine x_pick_f rfl rfl rfl rfl trivial ?_ | refine x_not rfl rfl rfl trivial ?_ | refine x_extract rfl rfl rfl rfl trivial ?_ | refine x_nilCheck rfl rfl rfl trivial ?_ | refine x_fieldAddr rfl rfl rfl rfl trivial ?_ | refine x_skip trivial rfl rfl rfl ?_ | refine x_indexAddr1 rfl rfl rfl (by assumption) (by omega) (by omega) rfl trivial ?_ | refine x_indexAddr rfl rfl rfl (by assumption) (by omega) (by omega) rfl trivial ?_ | refine x_nil ?_ | refine cw_seq ?_ | refine nw_seq ?_ | refine nw_block ?_ | refine cw_block ?_ | refine cw_skip ?_ | refine cw_region ?_ | refine cw_exit rfl ?_ | refine cw_true rfl ?_ | refine cw_false rfl ?_)
          refine x_call rfl rfl rfl trivial (awake8 _) ?_
          rintro _ Hz ⟨rfl, hkz⟩
          refine ⟨trivial, ?_⟩
          repeat (first | refine x_move rfl rfl rfl trivial ?_ | refine x_assign rfl rfl rfl trivial ?_ | refine x_add rfl rfl rfl (wrap_i64 (by omega) (by omega)) rfl trivial ?_ | refine x_sub_ rfl rfl rfl (wrap_i64 (by omega) (by omega)) rfl trivial ?_ | refine x_peqn rfl rfl rfl rfl trivial ?_ | refine x_ibin rfl rfl rfl rfl rfl trivial ?_ | refine x_len rfl rfl (by assumption) rfl trivial ?_ | refine x_pick_t rfl rfl rfl rfl trivial ?_ | refine x_pick_f rfl rfl rfl rfl trivial ?_ | refine x_not rfl rfl rfl trivial ?_ | refine x_extract rfl rfl rfl rfl trivial ?_ | refine x_nilCheck rfl rfl rfl trivial ?_ | refine x_fieldAddr rfl rfl rfl rfl trivial ?_ | refine x_skip trivial rfl rfl rfl ?_ | refine x_indexAddr1 rfl rfl rfl (by assumption) (by omega) (by omega) rfl trivial ?_ | refine x_indexAddr rfl rfl rfl (by assumption) (by omega) (by omega) rfl trivial ?_ | refine x_nil ?_ | refine cw_seq ?_ | refine nw_seq ?_ | refine nw_block ?_ | refine cw_block ?_ | refine cw_skip ?_ | refine cw_region ?_ | refine cw_exit rfl ?_ | refine cw_true rfl ?_ | refine cw_false rfl ?_)
          exact cw_ret1 rfl rfl ⟨rfl, (((hk1.non_trans hk5).non_trans hk6).non_trans hk68).non_trans hkz⟩

/-- the i-th of the keys of two bytes, spread by s -/
def key2 (s i : Nat) : Bytes := [UInt8.ofNat (i * s), UInt8.ofNat i]
theorem key2_ne {s i j : Nat} (hi : i < 8) (hj : j < 8) (h : key2 s i = key2 s j) : i = j := by
  unfold key2 at h
  simp only [List.cons.injEq, and_true] at h
  have h2 := congrArg UInt8.toNat h.2
  simp at h2
  omega
theorem bv_of (n : Nat) : IntKind.u8.wrap (n : Int) = ((UInt8.ofNat n).toNat : Int) := by
  rw [wrap_u8_mod]
  simp
/-- the shelf behind the first i of them -/
def fst2 (s : Nat) : Nat → List Pr
  | 0 => []
  | i + 1 => putM (fst2 s i) (key2 s i) i
theorem fst2_facts (s : Nat) : ∀ i, i ≤ 8 → rises (fst2 s i) = true ∧ (fst2 s i).length = i ∧ (∀ p, p ∈ fst2 s i ↔ ∃ j, j < i ∧ p = (key2 s j, (j : Int))) ∧ (i < 8 → there (fst2 s i) (key2 s i) = false) := by
  intro i
  induction i with
  | zero => intro _; exact ⟨rfl, rfl, fun p => by simp [fst2], fun _ => rfl⟩
  | succ i ih =>
    intro hi
    obtain ⟨h1, h2, h3, h4⟩ := ih (by omega)
    have hth := h4 (by omega)
    have e : fst2 s (i + 1) = (fst2 s i).take (rank (fst2 s i) (key2 s i)) ++ (key2 s i, (i : Int)) :: (fst2 s i).drop (rank (fst2 s i) (key2 s i)) := putM_not hth
    have hm : ∀ p, p ∈ fst2 s (i + 1) ↔ ∃ j, j < i + 1 ∧ p = (key2 s j, (j : Int)) := by
      intro p
      have hsp : p ∈ fst2 s i ↔ p ∈ (fst2 s i).take (rank (fst2 s i) (key2 s i)) ∨ p ∈ (fst2 s i).drop (rank (fst2 s i) (key2 s i)) := by rw [← List.mem_append, List.take_append_drop]
      rw [e, List.mem_append, List.mem_cons]
      constructor
      · rintro (h | h | h)
        · obtain ⟨j, hj, hp⟩ := (h3 p).1 (hsp.2 (.inl h)); exact ⟨j, by omega, hp⟩
        · exact ⟨i, by omega, h⟩
        · obtain ⟨j, hj, hp⟩ := (h3 p).1 (hsp.2 (.inr h)); exact ⟨j, by omega, hp⟩
      · rintro ⟨j, hj, hp⟩
        by_cases hji : j = i
        · subst hji; exact .inr (.inl hp)
        · rcases hsp.1 ((h3 p).2 ⟨j, by omega, hp⟩) with h | h
          · exact .inl h
          · exact .inr (.inr h)
    refine ⟨putM_rises h1 _ _, ?_, hm, fun hlt => ?_⟩
    · rw [e, List.length_append, List.length_cons, List.length_take, List.length_drop]
      have := rank_le (fst2 s i) (key2 s i)
      omega
    · cases hh : there (fst2 s (i + 1)) (key2 s (i + 1)) with
      | false => rfl
      | true =>
        obtain ⟨p, hp, hk⟩ := there_mem hh
        obtain ⟨j, hj, rfl⟩ := (hm p).1 hp
        have := key2_ne (s := s) (by omega) (by omega) hk
        omega

theorem walk_ShelfFull {x y : Int} {H : Heap} : Ret Try.prog 6 [.int .i64 x, .int .i64 y] H (Yes H) := by
  refine ret_of Try.func6 rfl rfl rfl rfl ?_
  intro w0
  repeat (first | refine x_move rfl rfl rfl trivial ?_ | refine x_assign rfl rfl rfl trivial ?_ | refine x_add rfl rfl rfl (wrap_i64 (by omega) (by omega)) rfl trivial ?_ | refine x_peqn rfl rfl rfl rfl trivial ?_ | refine x_mul rfl rfl rfl (wrap_i64 (by omega) (by omega)) rfl trivial ?_ | refine x_ibin rfl rfl rfl rfl rfl trivial ?_ | refine x_pick_t rfl rfl rfl rfl trivial ?_ | refine x_pick_f rfl rfl rfl rfl trivial ?_ | refine x_extract rfl rfl rfl rfl trivial ?_ | refine x_skip trivial rfl rfl rfl ?_ | refine x_nil ?_ | refine cw_seq ?_ | refine nw_seq ?_ | refine nw_block ?_ | refine cw_block ?_ | refine cw_skip ?_ | refine cw_region ?_ | refine cw_exit rfl ?_ | refine cw_true rfl ?_ | refine cw_false rfl ?_)
  refine x_call rfl rfl rfl trivial (law_LowF x 100 (by omega) H) ?_
  rintro _ _ ⟨rfl, rfl⟩
  refine ⟨trivial, ?_⟩
  obtain ⟨hb1, hb2⟩ := low_bd x (m := 100) (by omega)
  obtain ⟨s0, hs0⟩ := Int.eq_ofNat_of_zero_le hb1
  rw [hs0] at hb2 ⊢
  obtain ⟨sp, hsp⟩ : ∃ sp : Nat, sp = 1 + 2 * s0 := ⟨_, rfl⟩
  have hsp200 : sp ≤ 200 := by omega
  repeat (first | refine x_move rfl rfl rfl trivial ?_ | refine x_assign rfl rfl rfl trivial ?_ | refine x_add rfl rfl rfl (wrap_i64 (by omega) (by omega)) rfl trivial ?_ | refine x_peqn rfl rfl rfl rfl trivial ?_ | refine x_mul rfl rfl rfl (wrap_i64 (by omega) (by omega)) rfl trivial ?_ | refine x_ibin rfl rfl rfl rfl rfl trivial ?_ | refine x_pick_t rfl rfl rfl rfl trivial ?_ | refine x_pick_f rfl rfl rfl rfl trivial ?_ | refine x_extract rfl rfl rfl rfl trivial ?_ | refine x_skip trivial rfl rfl rfl ?_ | refine x_nil ?_ | refine cw_seq ?_ | refine nw_seq ?_ | refine nw_block ?_ | refine cw_block ?_ | refine cw_skip ?_ | refine cw_region ?_ | refine cw_exit rfl ?_ | refine cw_true rfl ?_ | refine cw_false rfl ?_)
  refine x_call rfl rfl rfl trivial (shelf_New (Ps.nil H) (by simp) (by simp)) ?_
  rintro v1 H1 ⟨hk1, h1⟩
  refine ⟨trivial, ?_⟩
  rcases h1 with ⟨h1, _⟩ | ⟨_, s, K, rfl, hF, hS⟩
  · exact absurd ⟨by simp, rfl⟩ h1
  have hspI : (1 : Int) + 2 * (s0 : Int) = (sp : Int) := by omega
  repeat (first | refine x_move rfl rfl rfl trivial ?_ | refine x_assign rfl rfl rfl trivial ?_ | refine x_add rfl rfl rfl (wrap_i64 (by omega) (by omega)) rfl trivial ?_ | refine x_mul rfl rfl rfl (wrap_i64 (by omega) (by omega)) rfl trivial ?_ | refine x_ibin rfl rfl rfl rfl rfl trivial ?_ | refine x_pick_t rfl rfl rfl rfl trivial ?_ | refine x_pick_f rfl rfl rfl rfl trivial ?_ | refine x_extract rfl rfl rfl rfl trivial ?_ | refine x_skip trivial rfl rfl rfl ?_ | refine x_nil ?_ | refine cw_seq ?_ | refine nw_seq ?_ | refine nw_block ?_ | refine cw_block ?_ | refine cw_skip ?_ | refine cw_exit rfl ?_ | refine cw_true rfl ?_ | refine cw_false rfl ?_)
  rw [hspI]
  repeat (first | refine x_move rfl rfl rfl trivial ?_ | refine x_assign rfl rfl rfl trivial ?_ | refine x_add rfl rfl rfl (wrap_i64 (by omega) (by omega)) rfl trivial ?_ | refine x_peqn rfl rfl rfl rfl trivial ?_ | refine x_mul rfl rfl rfl (wrap_i64 (by omega) (by omega)) rfl trivial ?_ | refine x_ibin rfl rfl rfl rfl rfl trivial ?_ | refine x_pick_t rfl rfl rfl rfl trivial ?_ | refine x_pick_f rfl rfl rfl rfl trivial ?_ | refine x_extract rfl rfl rfl rfl trivial ?_ | refine x_skip trivial rfl rfl rfl ?_ | refine x_nil ?_ | refine cw_seq ?_ | refine nw_seq ?_ | refine nw_block ?_ | refine cw_block ?_ | refine cw_skip ?_ | refine cw_region ?_ | refine cw_exit rfl ?_ | refine cw_true rfl ?_ | refine cw_false rfl ?_)
  refine cw_loop (fun t : Nat × Role => [(0, .int .i64 sp), (1, .int .i64 y), (5, ptr s 0), (6, .int .i64 t.1)]) (fun t H' => t.1 ≤ 8 ∧ Keep Non H H' ∧ t.2.From H.size ∧ Sh t.2 H' s (fst2 sp t.1)) (fun t => 8 - t.1) (0, K) (by repeat (first | exact True.intro | refine ⟨rfl, ?_⟩)) ⟨Nat.zero_le _, hk1, hF, hS⟩ ?_
  rintro ⟨i, K2⟩ H2 ⟨hi, hk2, hF2, hS2⟩
  dsimp only at hi hF2 hS2 ⊢
  obtain ⟨f1, f2, f3, f4⟩ := fst2_facts sp i hi
  have hbig : i * sp ≤ 1600 := Nat.le_trans (Nat.mul_le_mul hi hsp200) (by omega)
  repeat (first | refine x_move rfl rfl rfl trivial ?_ | refine x_assign rfl rfl rfl trivial ?_ | refine x_add rfl rfl rfl (wrap_i64 (by omega) (by omega)) rfl trivial ?_ | refine x_peqn rfl rfl rfl rfl trivial ?_ | refine x_mul rfl rfl rfl (wrap_i64 (by omega) (by omega)) rfl trivial ?_ | refine x_ibin rfl rfl rfl rfl rfl trivial ?_ | refine x_pick_t rfl rfl rfl rfl trivial ?_ | refine x_pick_f rfl rfl rfl rfl trivial ?_ | refine x_extract rfl rfl rfl rfl trivial ?_ | refine x_skip trivial rfl rfl rfl ?_ | refine x_nil ?_ | refine cw_seq ?_ | refine nw_seq ?_ | refine nw_block ?_ | refine cw_block ?_ | refine cw_skip ?_ | refine cw_region ?_ | refine cw_exit rfl ?_ | refine cw_true rfl ?_ | refine cw_false rfl ?_)
  refine cw_cond rfl (fun h3 => ?_) (fun h3 => ?_) <;> (try simp at h3)
  · have hth := f4 (by omega)
    repeat (first | refine x_move rfl rfl rfl trivial ?_ | refine x_assign rfl rfl rfl trivial ?_ | refine x_add rfl rfl rfl (wrap_i64 (by omega) (by omega)) rfl trivial ?_ | refine x_peqn rfl rfl rfl rfl trivial ?_ | refine x_mul rfl rfl rfl (wrap_i64 (by omega) (by omega)) rfl trivial ?_ | refine x_ibin rfl rfl rfl rfl rfl trivial ?_ | refine x_pick_t rfl rfl rfl rfl trivial ?_ | refine x_pick_f rfl rfl rfl rfl trivial ?_ | refine x_extract rfl rfl rfl rfl trivial ?_ | refine x_skip trivial rfl rfl rfl ?_ | refine x_nil ?_ | refine cw_seq ?_ | refine nw_seq ?_ | refine nw_block ?_ | refine cw_block ?_ | refine cw_skip ?_ | refine cw_region ?_ | refine cw_exit rfl ?_ | refine cw_true rfl ?_ | refine cw_false rfl ?_)
    refine x_conv_int rfl rfl rfl trivial ?_
    rw [show (i : Int) * (sp : Int) = ((i * sp : Nat) : Int) by simp, bv_of]
    repeat (first | refine x_move rfl rfl rfl trivial ?_ | refine x_assign rfl rfl rfl trivial ?_ | refine x_add rfl rfl rfl (wrap_i64 (by omega) (by omega)) rfl trivial ?_ | refine x_peqn rfl rfl rfl rfl trivial ?_ | refine x_mul rfl rfl rfl (wrap_i64 (by omega) (by omega)) rfl trivial ?_ | refine x_ibin rfl rfl rfl rfl rfl trivial ?_ | refine x_pick_t rfl rfl rfl rfl trivial ?_ | refine x_pick_f rfl rfl rfl rfl trivial ?_ | refine x_extract rfl rfl rfl rfl trivial ?_ | refine x_skip trivial rfl rfl rfl ?_ | refine x_nil ?_ | refine cw_seq ?_ | refine nw_seq ?_ | refine nw_block ?_ | refine cw_block ?_ | refine cw_skip ?_ | refine cw_region ?_ | refine cw_exit rfl ?_ | refine cw_true rfl ?_ | refine cw_false rfl ?_)
    refine x_conv_int rfl rfl rfl trivial ?_
    rw [bv_of]
    repeat (first | refine x_move rfl rfl rfl trivial ?_ | refine x_assign rfl rfl rfl trivial ?_ | refine x_add rfl rfl rfl (wrap_i64 (by omega) (by omega)) rfl trivial ?_ | refine x_peqn rfl rfl rfl rfl trivial ?_ | refine x_mul rfl rfl rfl (wrap_i64 (by omega) (by omega)) rfl trivial ?_ | refine x_ibin rfl rfl rfl rfl rfl trivial ?_ | refine x_pick_t rfl rfl rfl rfl trivial ?_ | refine x_pick_f rfl rfl rfl rfl trivial ?_ | refine x_extract rfl rfl rfl rfl trivial ?_ | refine x_skip trivial rfl rfl rfl ?_ | refine x_nil ?_ | refine cw_seq ?_ | refine nw_seq ?_ | refine nw_block ?_ | refine cw_block ?_ | refine cw_skip ?_ | refine cw_region ?_ | refine cw_exit rfl ?_ | refine cw_true rfl ?_ | refine cw_false rfl ?_)
    refine x_buildSlice (vs := bvs (key2 sp i)) rfl rfl rfl rfl (by omega) (bvs_oneC _) rfl trivial ?_
    intro H3 hn3
    refine ⟨trivial, ?_⟩
    have hKb : Bs H3 (.slice (some ⟨H2.size, 0, none⟩) 2 2) (key2 sp i) := konst_bs (l := key2 sp i) hn3.blk (by simp [key2])
    repeat (first | refine x_move rfl rfl rfl trivial ?_ | refine x_assign rfl rfl rfl trivial ?_ | refine x_add rfl rfl rfl (wrap_i64 (by omega) (by omega)) rfl trivial ?_ | refine x_peqn rfl rfl rfl rfl trivial ?_ | refine x_mul rfl rfl rfl (wrap_i64 (by omega) (by omega)) rfl trivial ?_ | refine x_ibin rfl rfl rfl rfl rfl trivial ?_ | refine x_pick_t rfl rfl rfl rfl trivial ?_ | refine x_pick_f rfl rfl rfl rfl trivial ?_ | refine x_extract rfl rfl rfl rfl trivial ?_ | refine x_skip trivial rfl rfl rfl ?_ | refine x_nil ?_ | refine cw_seq ?_ | refine nw_seq ?_ | refine nw_block ?_ | refine cw_block ?_ | refine cw_skip ?_ | refine cw_region ?_ | refine cw_exit rfl ?_ | refine cw_true rfl ?_ | refine cw_false rfl ?_)
    refine x_conv_int rfl rfl rfl trivial ?_
    rw [wrap_u64 (by omega) (by omega)]
    repeat (first | refine x_move rfl rfl rfl trivial ?_ | refine x_assign rfl rfl rfl trivial ?_ | refine x_add rfl rfl rfl (wrap_i64 (by omega) (by omega)) rfl trivial ?_ | refine x_peqn rfl rfl rfl rfl trivial ?_ | refine x_mul rfl rfl rfl (wrap_i64 (by omega) (by omega)) rfl trivial ?_ | refine x_ibin rfl rfl rfl rfl rfl trivial ?_ | refine x_pick_t rfl rfl rfl rfl trivial ?_ | refine x_pick_f rfl rfl rfl rfl trivial ?_ | refine x_extract rfl rfl rfl rfl trivial ?_ | refine x_skip trivial rfl rfl rfl ?_ | refine x_nil ?_ | refine cw_seq ?_ | refine nw_seq ?_ | refine nw_block ?_ | refine cw_block ?_ | refine cw_skip ?_ | refine cw_region ?_ | refine cw_exit rfl ?_ | refine cw_true rfl ?_ | refine cw_false rfl ?_)
    refine x_call rfl rfl rfl trivial (shelf_Put i (hS2.keepN hn3.keep) hKb (by simp [key2])) ?_
    have hnf : ¬ fullS (fst2 sp i) (key2 sp i) := fun e => by have := e.2; omega
    rintro _ H4 ⟨rfl, hk4, K4, hE4, hS4⟩
    refine ⟨trivial, ?_⟩
    rw [if_neg hnf] at hS4 ⊢
    rw [hth, getM_there.1 hth]
    have hS4' : Sh K4 H4 s (fst2 sp (i + 1)) := hS4
    obtain ⟨g1, g2, g3, g4⟩ := fst2_facts sp (i + 1) (by omega)
    have hk23 := hk2.non_trans hn3.keep
    repeat (first | refine x_move rfl rfl rfl trivial ?_ | refine x_assign rfl rfl rfl trivial ?_ | refine x_add rfl rfl rfl (wrap_i64 (by omega) (by omega)) rfl trivial ?_ | refine x_peqn rfl rfl rfl rfl trivial ?_ | refine x_mul rfl rfl rfl (wrap_i64 (by omega) (by omega)) rfl trivial ?_ | refine x_ibin rfl rfl rfl rfl rfl trivial ?_ | refine x_pick_t rfl rfl rfl rfl trivial ?_ | refine x_pick_f rfl rfl rfl rfl trivial ?_ | refine x_extract rfl rfl rfl rfl trivial ?_ | refine x_skip trivial rfl rfl rfl ?_ | refine x_nil ?_ | refine cw_seq ?_ | refine nw_seq ?_ | refine nw_block ?_ | refine cw_block ?_ | refine cw_skip ?_ | refine cw_region ?_ | refine cw_exit rfl ?_ | refine cw_true rfl ?_ | refine cw_false rfl ?_)
    refine x_call rfl rfl rfl trivial (shelf_Len hS4') ?_
    rintro _ _ ⟨rfl, rfl⟩
    refine ⟨trivial, ?_⟩
    rw [g2]
    repeat (first | refine x_move rfl rfl rfl trivial ?_ | refine x_assign rfl rfl rfl trivial ?_ | refine x_add rfl rfl rfl (wrap_i64 (by omega) (by omega)) rfl trivial ?_ | refine x_peqn rfl rfl rfl rfl trivial ?_ | refine x_mul rfl rfl rfl (wrap_i64 (by omega) (by omega)) rfl trivial ?_ | refine x_ibin rfl rfl rfl rfl rfl trivial ?_ | refine x_pick_t rfl rfl rfl rfl trivial ?_ | refine x_pick_f rfl rfl rfl rfl trivial ?_ | refine x_extract rfl rfl rfl rfl trivial ?_ | refine x_skip trivial rfl rfl rfl ?_ | refine x_nil ?_ | refine cw_seq ?_ | refine nw_seq ?_ | refine nw_block ?_ | refine cw_block ?_ | refine cw_skip ?_ | refine cw_region ?_ | refine cw_exit rfl ?_ | refine cw_true rfl ?_ | refine cw_false rfl ?_)
    refine cw_cond rfl (fun h => absurd h (by simp)) (fun _ => ?_)
    repeat (first | refine x_move rfl rfl rfl trivial ?_ | refine x_assign rfl rfl rfl trivial ?_ | refine x_add rfl rfl rfl (wrap_i64 (by omega) (by omega)) rfl trivial ?_ | refine x_peqn rfl rfl rfl rfl trivial ?_ | refine x_mul rfl rfl rfl (wrap_i64 (by omega) (by omega)) rfl trivial ?_ | refine x_ibin rfl rfl rfl rfl rfl trivial ?_ | refine x_pick_t rfl rfl rfl rfl trivial ?_ | refine x_pick_f rfl rfl rfl rfl trivial ?_ | refine x_extract rfl rfl rfl rfl trivial ?_ | refine x_skip trivial rfl rfl rfl ?_ | refine x_nil ?_ | refine cw_seq ?_ | refine nw_seq ?_ | refine nw_block ?_ | refine cw_block ?_ | refine cw_skip ?_ | refine cw_region ?_ | refine cw_exit rfl ?_ | refine cw_true rfl ?_ | refine cw_false rfl ?_)
    exact nw_round (i + 1, K4) (by repeat (first | exact True.intro | refine ⟨rfl, ?_⟩)) ⟨by show i + 1 ≤ 8; omega, hF2.keep hk23 hk4 (fun x e => by rcases e with e | e <;> omega), hF2.ext hE4 hk23.size, hS4'⟩ (by show 8 - (i + 1) < 8 - i; omega)
  · have hie : i = 8 := by omega
    subst hie
    clear f4
    generalize fst2 sp 8 = l8 at f1 f2 f3 hS2
    repeat (first | refine x_move rfl rfl rfl trivial ?_ | refine x_assign rfl rfl rfl trivial ?_ | refine x_add rfl rfl rfl (wrap_i64 (by omega) (by omega)) rfl trivial ?_ | refine x_peqn rfl rfl rfl rfl trivial ?_ | refine x_mul rfl rfl rfl (wrap_i64 (by omega) (by omega)) rfl trivial ?_ | refine x_ibin rfl rfl rfl rfl rfl trivial ?_ | refine x_pick_t rfl rfl rfl rfl trivial ?_ | refine x_pick_f rfl rfl rfl rfl trivial ?_ | refine x_extract rfl rfl rfl rfl trivial ?_ | refine x_skip trivial rfl rfl rfl ?_ | refine x_nil ?_ | refine cw_seq ?_ | refine nw_seq ?_ | refine nw_block ?_ | refine cw_block ?_ | refine cw_skip ?_ | refine cw_region ?_ | refine cw_exit rfl ?_ | refine cw_true rfl ?_ | refine cw_false rfl ?_)
    refine x_call rfl rfl rfl trivial (law_LowF y 8 (by omega) H2) ?_
    rintro _ _ ⟨rfl, rfl⟩
    refine ⟨trivial, ?_⟩
    obtain ⟨hl3, hl4⟩ := low_bd y (m := 8) (by omega)
    obtain ⟨wh, hwh⟩ := Int.eq_ofNat_of_zero_le hl3
    rw [hwh] at hl4 ⊢
    have hbig2 : wh * sp ≤ 1600 := Nat.le_trans (Nat.mul_le_mul (show wh ≤ 8 by omega) hsp200) (by omega)
    repeat (first | refine x_move rfl rfl rfl trivial ?_ | refine x_assign rfl rfl rfl trivial ?_ | refine x_add rfl rfl rfl (wrap_i64 (by omega) (by omega)) rfl trivial ?_ | refine x_peqn rfl rfl rfl rfl trivial ?_ | refine x_mul rfl rfl rfl (wrap_i64 (by omega) (by omega)) rfl trivial ?_ | refine x_ibin rfl rfl rfl rfl rfl trivial ?_ | refine x_pick_t rfl rfl rfl rfl trivial ?_ | refine x_pick_f rfl rfl rfl rfl trivial ?_ | refine x_extract rfl rfl rfl rfl trivial ?_ | refine x_skip trivial rfl rfl rfl ?_ | refine x_nil ?_ | refine cw_seq ?_ | refine nw_seq ?_ | refine nw_block ?_ | refine cw_block ?_ | refine cw_skip ?_ | refine cw_region ?_ | refine cw_exit rfl ?_ | refine cw_true rfl ?_ | refine cw_false rfl ?_)
    refine x_conv_int rfl rfl rfl trivial ?_
    rw [show (wh : Int) * (sp : Int) = ((wh * sp : Nat) : Int) by simp, bv_of]
    repeat (first | refine x_move rfl rfl rfl trivial ?_ | refine x_assign rfl rfl rfl trivial ?_ | refine x_add rfl rfl rfl (wrap_i64 (by omega) (by omega)) rfl trivial ?_ | refine x_peqn rfl rfl rfl rfl trivial ?_ | refine x_mul rfl rfl rfl (wrap_i64 (by omega) (by omega)) rfl trivial ?_ | refine x_ibin rfl rfl rfl rfl rfl trivial ?_ | refine x_pick_t rfl rfl rfl rfl trivial ?_ | refine x_pick_f rfl rfl rfl rfl trivial ?_ | refine x_extract rfl rfl rfl rfl trivial ?_ | refine x_skip trivial rfl rfl rfl ?_ | refine x_nil ?_ | refine cw_seq ?_ | refine nw_seq ?_ | refine nw_block ?_ | refine cw_block ?_ | refine cw_skip ?_ | refine cw_region ?_ | refine cw_exit rfl ?_ | refine cw_true rfl ?_ | refine cw_false rfl ?_)
    refine x_conv_int rfl rfl rfl trivial ?_
    rw [bv_of]
    repeat (first | refine x_move rfl rfl rfl trivial ?_ | refine x_assign rfl rfl rfl trivial ?_ | refine x_add rfl rfl rfl (wrap_i64 (by omega) (by omega)) rfl trivial ?_ | refine x_peqn rfl rfl rfl rfl trivial ?_ | refine x_mul rfl rfl rfl (wrap_i64 (by omega) (by omega)) rfl trivial ?_ | refine x_ibin rfl rfl rfl rfl rfl trivial ?_ | refine x_pick_t rfl rfl rfl rfl trivial ?_ | refine x_pick_f rfl rfl rfl rfl trivial ?_ | refine x_extract rfl rfl rfl rfl trivial ?_ | refine x_skip trivial rfl rfl rfl ?_ | refine x_nil ?_ | refine cw_seq ?_ | refine nw_seq ?_ | refine nw_block ?_ | refine cw_block ?_ | refine cw_skip ?_ | refine cw_region ?_ | refine cw_exit rfl ?_ | refine cw_true rfl ?_ | refine cw_false rfl ?_)
    refine x_buildSlice (vs := bvs (key2 sp wh)) rfl rfl rfl rfl (by omega) (bvs_oneC _) rfl trivial ?_
    intro H3 hn3
    refine ⟨trivial, ?_⟩
    have hKb : Bs H3 (.slice (some ⟨H2.size, 0, none⟩) 2 2) (key2 sp wh) := konst_bs (l := key2 sp wh) hn3.blk (by simp [key2])
    have hS3 := hS2.keepN hn3.keep
    have hk3 := hk2.non_trans hn3.keep
    have hmem : (key2 sp wh, (wh : Int)) ∈ l8 := (f3 _).2 ⟨wh, by omega, rfl⟩
    obtain ⟨m1, m2⟩ := mem_self f1 hmem
    simp only at m1 m2
    have hlen2 : ∀ p ∈ l8, p.1.length = 2 := fun p hp => by
      obtain ⟨j, _, rfl⟩ := (f3 p).1 hp
      rfl
    have hnot : ∀ (l : List Pr) (c : Bytes), (∀ p ∈ l, p.1.length = 2) → c.length ≠ 2 → there l c = false := fun l c h1 h2 => by
      cases hh : there l c with
      | false => rfl
      | true =>
        obtain ⟨p, hp, hk⟩ := there_mem hh
        exact absurd (by rw [← hk]; exact h1 p hp) h2
    repeat (first | refine x_move rfl rfl rfl trivial ?_ | refine x_assign rfl rfl rfl trivial ?_ | refine x_add rfl rfl rfl (wrap_i64 (by omega) (by omega)) rfl trivial ?_ | refine x_peqn rfl rfl rfl rfl trivial ?_ | refine x_mul rfl rfl rfl (wrap_i64 (by omega) (by omega)) rfl trivial ?_ | refine x_ibin rfl rfl rfl rfl rfl trivial ?_ | refine x_pick_t rfl rfl rfl rfl trivial ?_ | refine x_pick_f rfl rfl rfl rfl trivial ?_ | refine x_extract rfl rfl rfl rfl trivial ?_ | refine x_skip trivial rfl rfl rfl ?_ | refine x_nil ?_ | refine cw_seq ?_ | refine nw_seq ?_ | refine nw_block ?_ | refine cw_block ?_ | refine cw_skip ?_ | refine cw_region ?_ | refine cw_exit rfl ?_ | refine cw_true rfl ?_ | refine cw_false rfl ?_)
    refine x_buildSlice rfl rfl rfl rfl (by omega) (by simp [oneC, Value.oneCell']) rfl trivial ?_
    intro H4a hn4
    refine ⟨trivial, ?_⟩
    repeat (first | refine x_move rfl rfl rfl trivial ?_ | refine x_assign rfl rfl rfl trivial ?_ | refine x_add rfl rfl rfl (wrap_i64 (by omega) (by omega)) rfl trivial ?_ | refine x_peqn rfl rfl rfl rfl trivial ?_ | refine x_mul rfl rfl rfl (wrap_i64 (by omega) (by omega)) rfl trivial ?_ | refine x_ibin rfl rfl rfl rfl rfl trivial ?_ | refine x_pick_t rfl rfl rfl rfl trivial ?_ | refine x_pick_f rfl rfl rfl rfl trivial ?_ | refine x_extract rfl rfl rfl rfl trivial ?_ | refine x_skip trivial rfl rfl rfl ?_ | refine x_nil ?_ | refine cw_seq ?_ | refine nw_seq ?_ | refine nw_block ?_ | refine cw_block ?_ | refine cw_skip ?_ | refine cw_region ?_ | refine cw_exit rfl ?_ | refine cw_true rfl ?_ | refine cw_false rfl ?_)
    refine x_mark (l := bvs [110, 111, 32, 109, 111, 114, 101]) rfl rfl hn4.raw rfl trivial ?_
    intro H4 hB4 hK4 hs4
    refine ⟨trivial, ?_⟩
    have hb4 := konst_bs hB4 (by decide)
    have hk4 := keep_at hn4.keep hK4 (Nat.le_refl _)
    have hS4 := hS3.keepN hk4
    have t1 := hnot l8 [110, 111, 32, 109, 111, 114, 101] hlen2 (by simp)
    have hfu : fullS l8 [110, 111, 32, 109, 111, 114, 101] := ⟨t1, f2⟩
    repeat (first | refine x_move rfl rfl rfl trivial ?_ | refine x_assign rfl rfl rfl trivial ?_ | refine x_add rfl rfl rfl (wrap_i64 (by omega) (by omega)) rfl trivial ?_ | refine x_peqn rfl rfl rfl rfl trivial ?_ | refine x_mul rfl rfl rfl (wrap_i64 (by omega) (by omega)) rfl trivial ?_ | refine x_ibin rfl rfl rfl rfl rfl trivial ?_ | refine x_pick_t rfl rfl rfl rfl trivial ?_ | refine x_pick_f rfl rfl rfl rfl trivial ?_ | refine x_extract rfl rfl rfl rfl trivial ?_ | refine x_skip trivial rfl rfl rfl ?_ | refine x_nil ?_ | refine cw_seq ?_ | refine nw_seq ?_ | refine nw_block ?_ | refine cw_block ?_ | refine cw_skip ?_ | refine cw_region ?_ | refine cw_exit rfl ?_ | refine cw_true rfl ?_ | refine cw_false rfl ?_)
    refine x_call rfl rfl rfl trivial (shelf_Put 9 hS4 hb4 (by simp)) ?_
    rintro _ H5 ⟨rfl, hk5, K5, hE5, hS5⟩
    refine ⟨trivial, ?_⟩
    rw [if_pos hfu] at hS5 ⊢
    have hk24 := hk3.non_trans hk4
    have hF5 := hF2.ext hE5 hk24.size
    have hkN5 := hF2.keep hk24 hk5 (fun x e => by rcases e with e | e <;> omega)
    have hsep : H.size ≤ H2.size := hk2.size
    have hKoff : ∀ x, x = H2.size → ¬ MutM K2 x := fun x hx e => by
      have := hS2.kin x (by rcases e with e | e <;> omega)
      omega
    have hKb5 : Bs H5 (.slice (some ⟨H2.size, 0, none⟩) 2 2) (key2 sp wh) := (hKb.keepN hk4).keep hk5 (fun _ => hKoff _ rfl)
    repeat (first | refine x_move rfl rfl rfl trivial ?_ | refine x_assign rfl rfl rfl trivial ?_ | refine x_add rfl rfl rfl (wrap_i64 (by omega) (by omega)) rfl trivial ?_ | refine x_peqn rfl rfl rfl rfl trivial ?_ | refine x_mul rfl rfl rfl (wrap_i64 (by omega) (by omega)) rfl trivial ?_ | refine x_ibin rfl rfl rfl rfl rfl trivial ?_ | refine x_pick_t rfl rfl rfl rfl trivial ?_ | refine x_pick_f rfl rfl rfl rfl trivial ?_ | refine x_extract rfl rfl rfl rfl trivial ?_ | refine x_skip trivial rfl rfl rfl ?_ | refine x_nil ?_ | refine cw_seq ?_ | refine nw_seq ?_ | refine nw_block ?_ | refine cw_block ?_ | refine cw_skip ?_ | refine cw_region ?_ | refine cw_exit rfl ?_ | refine cw_true rfl ?_ | refine cw_false rfl ?_)
    refine x_call rfl rfl rfl trivial (shelf_Put 77 hS5 hKb5 (by simp [key2])) ?_
    rintro _ H6 ⟨rfl, hk6, K6, hE6, hS6⟩
    refine ⟨trivial, ?_⟩
    have hnf : ¬ fullS l8 (key2 sp wh) := fun e => by have := e.1; rw [m1] at this; cases this
    rw [if_neg hnf] at hS6 ⊢
    rw [m1, m2]
    have hF6 := hF5.ext hE6 hkN5.size
    have hkN6 := hF5.keep hkN5 hk6 (fun x e => by rcases e with e | e <;> omega)
    have hK5o : ∀ x, x = H2.size → ¬ MutM K5 x := fun x hx e => by
      have h7 := hn3.size
      have h8 := hk4.size
      have h9 := hE5.old x (by omega)
      refine hKoff x hx ?_
      unfold MutM at e ⊢
      rw [h9] at e
      exact e
    have hKb6 : Bs H6 (.slice (some ⟨H2.size, 0, none⟩) 2 2) (key2 sp wh) := hKb5.keep hk6 (fun _ => hK5o _ rfl)
    have hput : putM l8 (key2 sp wh) 77 = l8.set (rank l8 (key2 sp wh)) (key2 sp wh, 77) := putM_there m1
    have hr6 := hS6.rise
    have hmem6 : (key2 sp wh, (77 : Int)) ∈ putM l8 (key2 sp wh) 77 := by
      unfold putM
      simp
    obtain ⟨m3, m4⟩ := mem_self hr6 hmem6
    simp only at m3 m4
    have hl6 : (putM l8 (key2 sp wh) 77).length = 8 := by rw [hput, List.length_set, f2]
    have hk26 : ∀ p ∈ putM l8 (key2 sp wh) 77, p.1.length = 2 := fun p hp => by
      rcases putM_mem hp with rfl | hp
      · rfl
      · exact hlen2 p hp
    repeat (first | refine x_move rfl rfl rfl trivial ?_ | refine x_assign rfl rfl rfl trivial ?_ | refine x_add rfl rfl rfl (wrap_i64 (by omega) (by omega)) rfl trivial ?_ | refine x_peqn rfl rfl rfl rfl trivial ?_ | refine x_mul rfl rfl rfl (wrap_i64 (by omega) (by omega)) rfl trivial ?_ | refine x_ibin rfl rfl rfl rfl rfl trivial ?_ | refine x_pick_t rfl rfl rfl rfl trivial ?_ | refine x_pick_f rfl rfl rfl rfl trivial ?_ | refine x_extract rfl rfl rfl rfl trivial ?_ | refine x_skip trivial rfl rfl rfl ?_ | refine x_nil ?_ | refine cw_seq ?_ | refine nw_seq ?_ | refine nw_block ?_ | refine cw_block ?_ | refine cw_skip ?_ | refine cw_region ?_ | refine cw_exit rfl ?_ | refine cw_true rfl ?_ | refine cw_false rfl ?_)
    refine x_call rfl rfl rfl trivial (shelf_Drop hS6 hKb6) ?_
    rintro _ H7 ⟨rfl, hk7, hS7⟩
    refine ⟨trivial, ?_⟩
    rw [m3, m4]
    have hkN7 := hF6.keep hkN6 hk7 (fun x e => by rcases e with e | e <;> omega)
    have hl7 : (dropM (putM l8 (key2 sp wh) 77) (key2 sp wh)).length = 7 := by
      obtain ⟨p, h8, _, _⟩ := getM_there.2 m3
      have := (List.getElem?_eq_some_iff.1 h8).1
      unfold dropM
      rw [if_pos m3, List.length_append, List.length_take, List.length_drop, hl6]
      omega
    have hk27 : ∀ p ∈ dropM (putM l8 (key2 sp wh) 77) (key2 sp wh), p.1.length = 2 := fun p hp => hk26 p (dropM_mem hp)
    repeat (first | refine x_move rfl rfl rfl trivial ?_ | refine x_assign rfl rfl rfl trivial ?_ | refine x_add rfl rfl rfl (wrap_i64 (by omega) (by omega)) rfl trivial ?_ | refine x_peqn rfl rfl rfl rfl trivial ?_ | refine x_mul rfl rfl rfl (wrap_i64 (by omega) (by omega)) rfl trivial ?_ | refine x_ibin rfl rfl rfl rfl rfl trivial ?_ | refine x_pick_t rfl rfl rfl rfl trivial ?_ | refine x_pick_f rfl rfl rfl rfl trivial ?_ | refine x_extract rfl rfl rfl rfl trivial ?_ | refine x_skip trivial rfl rfl rfl ?_ | refine x_nil ?_ | refine cw_seq ?_ | refine nw_seq ?_ | refine nw_block ?_ | refine cw_block ?_ | refine cw_skip ?_ | refine cw_region ?_ | refine cw_exit rfl ?_ | refine cw_true rfl ?_ | refine cw_false rfl ?_)
    refine x_buildSlice rfl rfl rfl rfl (by omega) (by simp [oneC, Value.oneCell']) rfl trivial ?_
    intro H8a hn8
    refine ⟨trivial, ?_⟩
    repeat (first | refine x_move rfl rfl rfl trivial ?_ | refine x_assign rfl rfl rfl trivial ?_ | refine x_add rfl rfl rfl (wrap_i64 (by omega) (by omega)) rfl trivial ?_ | refine x_peqn rfl rfl rfl rfl trivial ?_ | refine x_mul rfl rfl rfl (wrap_i64 (by omega) (by omega)) rfl trivial ?_ | refine x_ibin rfl rfl rfl rfl rfl trivial ?_ | refine x_pick_t rfl rfl rfl rfl trivial ?_ | refine x_pick_f rfl rfl rfl rfl trivial ?_ | refine x_extract rfl rfl rfl rfl trivial ?_ | refine x_skip trivial rfl rfl rfl ?_ | refine x_nil ?_ | refine cw_seq ?_ | refine nw_seq ?_ | refine nw_block ?_ | refine cw_block ?_ | refine cw_skip ?_ | refine cw_region ?_ | refine cw_exit rfl ?_ | refine cw_true rfl ?_ | refine cw_false rfl ?_)
    refine x_mark (l := bvs [111, 110, 101, 32, 109, 111, 114, 101]) rfl rfl hn8.raw rfl trivial ?_
    intro H8 hB8 hK8 hs8
    refine ⟨trivial, ?_⟩
    have hb8 := konst_bs hB8 (by decide)
    have hk8 := keep_at hn8.keep hK8 (Nat.le_refl _)
    have hS8 := hS7.keepN hk8
    have hkN8 := hkN7.non_trans hk8
    generalize dropM (putM l8 (key2 sp wh) 77) (key2 sp wh) = l7 at *
    have t2 := hnot l7 [111, 110, 101, 32, 109, 111, 114, 101] hk27 (by simp)
    have hnf2 : ¬ fullS l7 [111, 110, 101, 32, 109, 111, 114, 101] := fun e => by have := e.2; omega
    repeat (first | refine x_move rfl rfl rfl trivial ?_ | refine x_assign rfl rfl rfl trivial ?_ | refine x_add rfl rfl rfl (wrap_i64 (by omega) (by omega)) rfl trivial ?_ | refine x_peqn rfl rfl rfl rfl trivial ?_ | refine x_mul rfl rfl rfl (wrap_i64 (by omega) (by omega)) rfl trivial ?_ | refine x_ibin rfl rfl rfl rfl rfl trivial ?_ | refine x_pick_t rfl rfl rfl rfl trivial ?_ | refine x_pick_f rfl rfl rfl rfl trivial ?_ | refine x_extract rfl rfl rfl rfl trivial ?_ | refine x_skip trivial rfl rfl rfl ?_ | refine x_nil ?_ | refine cw_seq ?_ | refine nw_seq ?_ | refine nw_block ?_ | refine cw_block ?_ | refine cw_skip ?_ | refine cw_region ?_ | refine cw_exit rfl ?_ | refine cw_true rfl ?_ | refine cw_false rfl ?_)
    refine x_call rfl rfl rfl trivial (shelf_Put 9 hS8 hb8 (by simp)) ?_
    rintro _ H9 ⟨rfl, hk9, K9, hE9, hS9⟩
    refine ⟨trivial, ?_⟩
    rw [if_neg hnf2] at hS9 ⊢
    rw [t2, getM_there.1 t2]
    have hl9 : (putM l7 [111, 110, 101, 32, 109, 111, 114, 101] 9).length = 8 := by
      rw [putM_not t2, List.length_append, List.length_cons, List.length_take, List.length_drop]
      have := rank_le l7 [111, 110, 101, 32, 109, 111, 114, 101]
      omega
    have hkN9 := hF6.keep hkN8 hk9 (fun x e => by rcases e with e | e <;> omega)
    repeat (first | refine x_move rfl rfl rfl trivial ?_ | refine x_assign rfl rfl rfl trivial ?_ | refine x_add rfl rfl rfl (wrap_i64 (by omega) (by omega)) rfl trivial ?_ | refine x_peqn rfl rfl rfl rfl trivial ?_ | refine x_mul rfl rfl rfl (wrap_i64 (by omega) (by omega)) rfl trivial ?_ | refine x_ibin rfl rfl rfl rfl rfl trivial ?_ | refine x_pick_t rfl rfl rfl rfl trivial ?_ | refine x_pick_f rfl rfl rfl rfl trivial ?_ | refine x_extract rfl rfl rfl rfl trivial ?_ | refine x_skip trivial rfl rfl rfl ?_ | refine x_nil ?_ | refine cw_seq ?_ | refine nw_seq ?_ | refine nw_block ?_ | refine cw_block ?_ | refine cw_skip ?_ | refine cw_region ?_ | refine cw_exit rfl ?_ | refine cw_true rfl ?_ | refine cw_false rfl ?_)
    refine x_conv_int rfl rfl rfl trivial ?_
    rw [wrap_u64 (by omega) (by omega)]
    repeat (first | refine x_move rfl rfl rfl trivial ?_ | refine x_assign rfl rfl rfl trivial ?_ | refine x_add rfl rfl rfl (wrap_i64 (by omega) (by omega)) rfl trivial ?_ | refine x_peqn rfl rfl rfl rfl trivial ?_ | refine x_mul rfl rfl rfl (wrap_i64 (by omega) (by omega)) rfl trivial ?_ | refine x_ibin rfl rfl rfl rfl rfl trivial ?_ | refine x_pick_t rfl rfl rfl rfl trivial ?_ | refine x_pick_f rfl rfl rfl rfl trivial ?_ | refine x_extract rfl rfl rfl rfl trivial ?_ | refine x_skip trivial rfl rfl rfl ?_ | refine x_nil ?_ | refine cw_seq ?_ | refine nw_seq ?_ | refine nw_block ?_ | refine cw_block ?_ | refine cw_skip ?_ | refine cw_region ?_ | refine cw_exit rfl ?_ | refine cw_true rfl ?_ | refine cw_false rfl ?_)
    refine x_true 106 rfl (by simp) ?_
    repeat (first | refine x_move rfl rfl rfl trivial ?_ | refine x_assign rfl rfl rfl trivial ?_ | refine x_add rfl rfl rfl (wrap_i64 (by omega) (by omega)) rfl trivial ?_ | refine x_peqn rfl rfl rfl rfl trivial ?_ | refine x_mul rfl rfl rfl (wrap_i64 (by omega) (by omega)) rfl trivial ?_ | refine x_ibin rfl rfl rfl rfl rfl trivial ?_ | refine x_pick_t rfl rfl rfl rfl trivial ?_ | refine x_pick_f rfl rfl rfl rfl trivial ?_ | refine x_extract rfl rfl rfl rfl trivial ?_ | refine x_skip trivial rfl rfl rfl ?_ | refine x_nil ?_ | refine cw_seq ?_ | refine nw_seq ?_ | refine nw_block ?_ | refine cw_block ?_ | refine cw_skip ?_ | refine cw_region ?_ | refine cw_exit rfl ?_ | refine cw_true rfl ?_ | refine cw_false rfl ?_)
    refine x_call rfl rfl rfl trivial (shelf_Len hS9) ?_
    rintro _ _ ⟨rfl, rfl⟩
    refine ⟨trivial, ?_⟩
    rw [hl9]
    repeat (first | refine x_move rfl rfl rfl trivial ?_ | refine x_assign rfl rfl rfl trivial ?_ | refine x_add rfl rfl rfl (wrap_i64 (by omega) (by omega)) rfl trivial ?_ | refine x_peqn rfl rfl rfl rfl trivial ?_ | refine x_mul rfl rfl rfl (wrap_i64 (by omega) (by omega)) rfl trivial ?_ | refine x_ibin rfl rfl rfl rfl rfl trivial ?_ | refine x_pick_t rfl rfl rfl rfl trivial ?_ | refine x_pick_f rfl rfl rfl rfl trivial ?_ | refine x_extract rfl rfl rfl rfl trivial ?_ | refine x_skip trivial rfl rfl rfl ?_ | refine x_nil ?_ | refine cw_seq ?_ | refine nw_seq ?_ | refine nw_block ?_ | refine cw_block ?_ | refine cw_skip ?_ | refine cw_region ?_ | refine cw_exit rfl ?_ | refine cw_true rfl ?_ | refine cw_false rfl ?_)
    refine x_call rfl rfl rfl trivial (awake8 _) ?_
    rintro _ Hz ⟨rfl, hkz⟩
    refine ⟨trivial, ?_⟩
    repeat (first | refine x_move rfl rfl rfl trivial ?_ | refine x_assign rfl rfl rfl trivial ?_ | refine x_add rfl rfl rfl (wrap_i64 (by omega) (by omega)) rfl trivial ?_ | refine x_peqn rfl rfl rfl rfl trivial ?_ | refine x_mul rfl rfl rfl (wrap_i64 (by omega) (by omega)) rfl trivial ?_ | refine x_ibin rfl rfl rfl rfl rfl trivial ?_ | refine x_pick_t rfl rfl rfl rfl trivial ?_ | refine x_pick_f rfl rfl rfl rfl trivial ?_ | refine x_extract rfl rfl rfl rfl trivial ?_ | refine x_skip trivial rfl rfl rfl ?_ | refine x_nil ?_ | refine cw_seq ?_ | refine nw_seq ?_ | refine nw_block ?_ | refine cw_block ?_ | refine cw_skip ?_ | refine cw_region ?_ | refine cw_exit rfl ?_ | refine cw_true rfl ?_ | refine cw_false rfl ?_)
    exact cw_ret1 rfl rfl ⟨rfl, (hkN9).non_trans hkz⟩
end Go.Proofs.Ytngnoapfmfneaaa.X
