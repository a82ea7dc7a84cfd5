/- The statements on arena: the walk of ArenaTurns. -/
import Derived.Test.YtioaicleodjmpaaLArena
namespace Go.Proofs.Ytioaicleodjmpaa.X
open Go Go.Proofs
set_option linter.unusedVariables false
set_option maxRecDepth 10000
set_option maxHeartbeats 4000000

theorem hdl_mem {l : List Ce} {n x : Nat} : x ∈ hdl l n ↔ ∃ j c, l[j]? = some (c, true) ∧ x = n + j := by
  induction l generalizing n with
  | nil => simp [hdl]
  | cons y l ih =>
    rw [hdl, List.mem_append, ih]
    constructor
    · rintro (h | ⟨j, c, h1, h2⟩)
      · split at h
        · rename_i hy
          refine ⟨0, y.1, ?_, by simpa using h⟩
          simp
          exact Prod.ext rfl hy
        · cases h
      · exact ⟨j + 1, c, by simpa using h1, by omega⟩
    · rintro ⟨j, c, h1, h2⟩
      cases j with
      | zero =>
        left
        simp at h1
        rw [h1]
        simp
        omega
      | succ j =>
        right
        exact ⟨j, c, by simpa using h1, by omega⟩
theorem hdl_pw (l : List Ce) (n : Nat) : (hdl l n).Pairwise (· < ·) := by
  induction l generalizing n with
  | nil => simp [hdl]
  | cons y l ih =>
    rw [hdl, List.pairwise_append]
    refine ⟨by split <;> simp, ih (n + 1), fun a ha b hb => ?_⟩
    obtain ⟨j, c, _, h2⟩ := hdl_mem.1 hb
    split at ha
    · have : a = n := by simpa using ha
      omega
    · cases ha
theorem handles_has {a : Ar} {h : Nat} (hm : h ∈ handlesA a) : hasA a h = true ∧ 1 ≤ h ∧ h ≤ a.cs.length := by
  obtain ⟨j, c, h1, h2⟩ := hdl_mem.1 hm
  have := (List.getElem?_eq_some_iff.1 h1).1
  refine ⟨hasA_iff.2 ⟨by omega, c, ?_⟩, by omega, by omega⟩
  rw [h2, Nat.add_sub_cancel_left]
  exact h1
theorem handles_len {a : Ar} (w : a.Wf) : ((handlesA a).length : Int) = liveA a := by
  unfold handlesA
  rw [hdl_length, w.live.2]
theorem handles_rise {a : Ar} {k x y : Nat} (hx : (handlesA a)[k]? = some x) (hy : (handlesA a)[k + 1]? = some y) : x < y := by
  have h := List.pairwise_iff_getElem.1 (hdl_pw a.cs 1)
  obtain ⟨h1, e1⟩ := List.getElem?_eq_some_iff.1 hx
  obtain ⟨h2, e2⟩ := List.getElem?_eq_some_iff.1 hy
  have := h k (k + 1) h1 h2 (by omega)
  unfold handlesA at e1 e2
  rw [e1, e2] at this
  exact this
/-- what is taken is no handle that there was -/
theorem take_new {a : Ar} (w : a.Wf) {ws : List Int} (hl : ws.length ≤ 64) {h : Nat} (hm : h ∈ handlesA a) : (takeA a ws).1 ≠ (h : Int) := by
  obtain ⟨h1, h2, h3⟩ := handles_has hm
  unfold takeA
  rw [if_neg (by omega)]
  split
  · show (0 : Int) ≠ h
    omega
  · cases hb : a.back.getLast? with
    | none =>
      show ((a.cs.length + 1 : Nat) : Int) ≠ h
      omega
    | some g =>
      obtain ⟨g1, g2, g3⟩ := backA_last w hb
      show ((g : Nat) : Int) ≠ h
      intro e
      have : g = h := by omega
      subst this
      obtain ⟨_, c, g4⟩ := hasA_iff.1 h1
      rw [g2] at g4
      simp at g4

theorem row_cel {H : Heap} {v : Value} {zs : List Int} (h : Cels H (sb v) (so v) (zs.map (Value.int .i64))) : ∀ (j : Nat) (x : Int), zs[j]? = some x → cel H (sb v) (so v + j) = some (.int .i64 x) := fun j x hx => by
  have hlt := (List.getElem?_eq_some_iff.1 hx).1
  rw [h j (by simpa using hlt), ← List.getElem?_eq_getElem, List.getElem?_map, hx]
  rfl

theorem walk_ArenaTurns {most : Int} {va : Value} {turns : List Int} {H : Heap} (sA : IsSl va turns.length) (hA : ∀ (j : Nat) (x : Int), turns[j]? = some x → cel H (sb va) (so va + j) = some (.int .i64 x)) :
    Ret Try.prog 5 [va, .int .i64 most] H (Yes H) := by
  have cA := sA.cap
  refine ret_of Try.func5 rfl rfl rfl rfl ?_
  intro w0
  repeat (first
    | refine x_move rfl rfl rfl trivial ?_
    | refine x_assign rfl rfl rfl trivial ?_
    | refine x_add rfl rfl rfl (wrap_i64 (by omega) (by omega)) rfl trivial ?_
    | refine x_sub_ rfl rfl rfl (wrap_i64 (by omega) (by omega)) rfl trivial ?_
    | refine x_sub_ rfl rfl rfl (wrap_u32 (by omega) (by omega)) rfl trivial ?_
    | refine x_add rfl rfl rfl (wrap_u32 (by omega) (by omega)) rfl trivial ?_
    | refine x_peqn rfl rfl rfl rfl trivial ?_
    | refine x_pnen rfl rfl rfl rfl trivial ?_
    | refine x_mul rfl rfl rfl (wrap_i64 (by omega) (by omega)) rfl trivial ?_
    | refine x_ibin rfl rfl rfl rfl rfl trivial ?_
    | refine x_neg_ rfl rfl (wrap_i64 (by omega) (by omega)) rfl trivial ?_
    | refine x_len rfl rfl (by assumption) rfl trivial ?_
    | refine x_pick_t rfl rfl rfl rfl trivial ?_
    | refine x_pick_f rfl rfl rfl rfl trivial ?_
    | refine x_not rfl rfl rfl trivial ?_
    | refine x_beq rfl rfl rfl rfl trivial ?_
    | refine x_bne rfl rfl rfl rfl trivial ?_
    | refine x_extract rfl rfl rfl rfl trivial ?_
    | refine x_nilCheck rfl rfl rfl trivial ?_
    | refine x_fieldAddr rfl rfl rfl rfl trivial ?_
    | refine x_skip trivial rfl rfl rfl ?_
    | refine x_indexAddr1 rfl rfl rfl (by assumption) (by omega) (by omega) rfl trivial ?_
    | refine x_indexAddr rfl rfl rfl (by assumption) (by omega) (by omega) rfl trivial ?_
    | refine x_nil ?_
    | refine cw_seq ?_
    | refine nw_seq ?_
    | refine nw_block ?_
    | refine cw_block ?_
    | refine cw_skip ?_
    | refine cw_region ?_
    | refine cw_exit rfl ?_
    | refine cw_true rfl ?_
    | refine cw_false rfl ?_)
  refine cw_cond rfl (fun hlen => ?_) (fun hlen => ?_) <;> (try simp at hlen)
  · repeat (first
      | refine x_move rfl rfl rfl trivial ?_
      | refine x_assign rfl rfl rfl trivial ?_
      | refine x_add rfl rfl rfl (wrap_i64 (by omega) (by omega)) rfl trivial ?_
      | refine x_sub_ rfl rfl rfl (wrap_i64 (by omega) (by omega)) rfl trivial ?_
      | refine x_sub_ rfl rfl rfl (wrap_u32 (by omega) (by omega)) rfl trivial ?_
      | refine x_add rfl rfl rfl (wrap_u32 (by omega) (by omega)) rfl trivial ?_
      | refine x_peqn rfl rfl rfl rfl trivial ?_
      | refine x_pnen rfl rfl rfl rfl trivial ?_
      | refine x_mul rfl rfl rfl (wrap_i64 (by omega) (by omega)) rfl trivial ?_
      | refine x_ibin rfl rfl rfl rfl rfl trivial ?_
      | refine x_neg_ rfl rfl (wrap_i64 (by omega) (by omega)) rfl trivial ?_
      | refine x_len rfl rfl (by assumption) rfl trivial ?_
      | refine x_pick_t rfl rfl rfl rfl trivial ?_
      | refine x_pick_f rfl rfl rfl rfl trivial ?_
      | refine x_not rfl rfl rfl trivial ?_
      | refine x_beq rfl rfl rfl rfl trivial ?_
      | refine x_bne rfl rfl rfl rfl trivial ?_
      | refine x_extract rfl rfl rfl rfl trivial ?_
      | refine x_nilCheck rfl rfl rfl trivial ?_
      | refine x_fieldAddr rfl rfl rfl rfl trivial ?_
      | refine x_skip trivial rfl rfl rfl ?_
      | refine x_indexAddr1 rfl rfl rfl (by assumption) (by omega) (by omega) rfl trivial ?_
      | refine x_indexAddr rfl rfl rfl (by assumption) (by omega) (by omega) rfl trivial ?_
      | refine x_nil ?_
      | refine cw_seq ?_
      | refine nw_seq ?_
      | refine nw_block ?_
      | refine cw_block ?_
      | refine cw_skip ?_
      | refine cw_region ?_
      | refine cw_exit rfl ?_
      | refine cw_true rfl ?_
      | refine cw_false rfl ?_)
    refine x_call rfl rfl rfl trivial (awake5 _) ?_
    rintro _ Hz ⟨rfl, hkz⟩
    refine ⟨trivial, ?_⟩
    repeat (first
      | refine x_move rfl rfl rfl trivial ?_
      | refine x_assign rfl rfl rfl trivial ?_
      | refine x_add rfl rfl rfl (wrap_i64 (by omega) (by omega)) rfl trivial ?_
      | refine x_sub_ rfl rfl rfl (wrap_i64 (by omega) (by omega)) rfl trivial ?_
      | refine x_sub_ rfl rfl rfl (wrap_u32 (by omega) (by omega)) rfl trivial ?_
      | refine x_add rfl rfl rfl (wrap_u32 (by omega) (by omega)) rfl trivial ?_
      | refine x_peqn rfl rfl rfl rfl trivial ?_
      | refine x_pnen rfl rfl rfl rfl trivial ?_
      | refine x_mul rfl rfl rfl (wrap_i64 (by omega) (by omega)) rfl trivial ?_
      | refine x_ibin rfl rfl rfl rfl rfl trivial ?_
      | refine x_neg_ rfl rfl (wrap_i64 (by omega) (by omega)) rfl trivial ?_
      | refine x_len rfl rfl (by assumption) rfl trivial ?_
      | refine x_pick_t rfl rfl rfl rfl trivial ?_
      | refine x_pick_f rfl rfl rfl rfl trivial ?_
      | refine x_not rfl rfl rfl trivial ?_
      | refine x_beq rfl rfl rfl rfl trivial ?_
      | refine x_bne rfl rfl rfl rfl trivial ?_
      | refine x_extract rfl rfl rfl rfl trivial ?_
      | refine x_nilCheck rfl rfl rfl trivial ?_
      | refine x_fieldAddr rfl rfl rfl rfl trivial ?_
      | refine x_skip trivial rfl rfl rfl ?_
      | refine x_indexAddr1 rfl rfl rfl (by assumption) (by omega) (by omega) rfl trivial ?_
      | refine x_indexAddr rfl rfl rfl (by assumption) (by omega) (by omega) rfl trivial ?_
      | refine x_nil ?_
      | refine cw_seq ?_
      | refine nw_seq ?_
      | refine nw_block ?_
      | refine cw_block ?_
      | refine cw_skip ?_
      | refine cw_region ?_
      | refine cw_exit rfl ?_
      | refine cw_true rfl ?_
      | refine cw_false rfl ?_)
    exact cw_ret1 rfl rfl ⟨rfl, (Keep.refl Non H).non_trans hkz⟩
  · repeat (first
      | refine x_move rfl rfl rfl trivial ?_
      | refine x_assign rfl rfl rfl trivial ?_
      | refine x_add rfl rfl rfl (wrap_i64 (by omega) (by omega)) rfl trivial ?_
      | refine x_sub_ rfl rfl rfl (wrap_i64 (by omega) (by omega)) rfl trivial ?_
      | refine x_sub_ rfl rfl rfl (wrap_u32 (by omega) (by omega)) rfl trivial ?_
      | refine x_add rfl rfl rfl (wrap_u32 (by omega) (by omega)) rfl trivial ?_
      | refine x_peqn rfl rfl rfl rfl trivial ?_
      | refine x_pnen rfl rfl rfl rfl trivial ?_
      | refine x_mul rfl rfl rfl (wrap_i64 (by omega) (by omega)) rfl trivial ?_
      | refine x_ibin rfl rfl rfl rfl rfl trivial ?_
      | refine x_neg_ rfl rfl (wrap_i64 (by omega) (by omega)) rfl trivial ?_
      | refine x_len rfl rfl (by assumption) rfl trivial ?_
      | refine x_pick_t rfl rfl rfl rfl trivial ?_
      | refine x_pick_f rfl rfl rfl rfl trivial ?_
      | refine x_not rfl rfl rfl trivial ?_
      | refine x_beq rfl rfl rfl rfl trivial ?_
      | refine x_bne rfl rfl rfl rfl trivial ?_
      | refine x_extract rfl rfl rfl rfl trivial ?_
      | refine x_nilCheck rfl rfl rfl trivial ?_
      | refine x_fieldAddr rfl rfl rfl rfl trivial ?_
      | refine x_skip trivial rfl rfl rfl ?_
      | refine x_indexAddr1 rfl rfl rfl (by assumption) (by omega) (by omega) rfl trivial ?_
      | refine x_indexAddr rfl rfl rfl (by assumption) (by omega) (by omega) rfl trivial ?_
      | refine x_nil ?_
      | refine cw_seq ?_
      | refine nw_seq ?_
      | refine nw_block ?_
      | refine cw_block ?_
      | refine cw_skip ?_
      | refine cw_region ?_
      | refine cw_exit rfl ?_
      | refine cw_true rfl ?_
      | refine cw_false rfl ?_)
    refine x_call rfl rfl rfl trivial (law_LowF most 21 (by omega) H) ?_
    rintro _ _ ⟨rfl, rfl⟩
    refine ⟨trivial, ?_⟩
    have b1 := low_bd most (m := 21) (by omega)
    obtain ⟨m, hm⟩ : ∃ m : Nat, low most 21 = (m : Int) := ⟨(low most 21).toNat, by omega⟩
    rw [hm] at b1 ⊢
    repeat (first
      | refine x_move rfl rfl rfl trivial ?_
      | refine x_assign rfl rfl rfl trivial ?_
      | refine x_add rfl rfl rfl (wrap_i64 (by omega) (by omega)) rfl trivial ?_
      | refine x_sub_ rfl rfl rfl (wrap_i64 (by omega) (by omega)) rfl trivial ?_
      | refine x_sub_ rfl rfl rfl (wrap_u32 (by omega) (by omega)) rfl trivial ?_
      | refine x_add rfl rfl rfl (wrap_u32 (by omega) (by omega)) rfl trivial ?_
      | refine x_peqn rfl rfl rfl rfl trivial ?_
      | refine x_pnen rfl rfl rfl rfl trivial ?_
      | refine x_mul rfl rfl rfl (wrap_i64 (by omega) (by omega)) rfl trivial ?_
      | refine x_ibin rfl rfl rfl rfl rfl trivial ?_
      | refine x_neg_ rfl rfl (wrap_i64 (by omega) (by omega)) rfl trivial ?_
      | refine x_len rfl rfl (by assumption) rfl trivial ?_
      | refine x_pick_t rfl rfl rfl rfl trivial ?_
      | refine x_pick_f rfl rfl rfl rfl trivial ?_
      | refine x_not rfl rfl rfl trivial ?_
      | refine x_beq rfl rfl rfl rfl trivial ?_
      | refine x_bne rfl rfl rfl rfl trivial ?_
      | refine x_extract rfl rfl rfl rfl trivial ?_
      | refine x_nilCheck rfl rfl rfl trivial ?_
      | refine x_fieldAddr rfl rfl rfl rfl trivial ?_
      | refine x_skip trivial rfl rfl rfl ?_
      | refine x_indexAddr1 rfl rfl rfl (by assumption) (by omega) (by omega) rfl trivial ?_
      | refine x_indexAddr rfl rfl rfl (by assumption) (by omega) (by omega) rfl trivial ?_
      | refine x_nil ?_
      | refine cw_seq ?_
      | refine nw_seq ?_
      | refine nw_block ?_
      | refine cw_block ?_
      | refine cw_skip ?_
      | refine cw_region ?_
      | refine cw_exit rfl ?_
      | refine cw_true rfl ?_
      | refine cw_false rfl ?_)
    refine x_call rfl rfl rfl trivial (as_New (m : Int) (by omega) H) ?_
    rintro _ H1 ⟨b, rfl, hA1⟩
    refine ⟨trivial, ?_⟩
    have hw0 : Ar.Wf ⟨m, [], []⟩ := ⟨⟨by simp only; omega, by simp only; omega⟩, by simp [liveA], by simp, by simp, by simp [takenA]⟩
    repeat (first
      | refine x_move rfl rfl rfl trivial ?_
      | refine x_assign rfl rfl rfl trivial ?_
      | refine x_add rfl rfl rfl (wrap_i64 (by omega) (by omega)) rfl trivial ?_
      | refine x_sub_ rfl rfl rfl (wrap_i64 (by omega) (by omega)) rfl trivial ?_
      | refine x_sub_ rfl rfl rfl (wrap_u32 (by omega) (by omega)) rfl trivial ?_
      | refine x_add rfl rfl rfl (wrap_u32 (by omega) (by omega)) rfl trivial ?_
      | refine x_peqn rfl rfl rfl rfl trivial ?_
      | refine x_pnen rfl rfl rfl rfl trivial ?_
      | refine x_mul rfl rfl rfl (wrap_i64 (by omega) (by omega)) rfl trivial ?_
      | refine x_ibin rfl rfl rfl rfl rfl trivial ?_
      | refine x_neg_ rfl rfl (wrap_i64 (by omega) (by omega)) rfl trivial ?_
      | refine x_len rfl rfl (by assumption) rfl trivial ?_
      | refine x_pick_t rfl rfl rfl rfl trivial ?_
      | refine x_pick_f rfl rfl rfl rfl trivial ?_
      | refine x_not rfl rfl rfl trivial ?_
      | refine x_beq rfl rfl rfl rfl trivial ?_
      | refine x_bne rfl rfl rfl rfl trivial ?_
      | refine x_extract rfl rfl rfl rfl trivial ?_
      | refine x_nilCheck rfl rfl rfl trivial ?_
      | refine x_fieldAddr rfl rfl rfl rfl trivial ?_
      | refine x_skip trivial rfl rfl rfl ?_
      | refine x_indexAddr1 rfl rfl rfl (by assumption) (by omega) (by omega) rfl trivial ?_
      | refine x_indexAddr rfl rfl rfl (by assumption) (by omega) (by omega) rfl trivial ?_
      | refine x_nil ?_
      | refine cw_seq ?_
      | refine nw_seq ?_
      | refine nw_block ?_
      | refine cw_block ?_
      | refine cw_skip ?_
      | refine cw_region ?_
      | refine cw_exit rfl ?_
      | refine cw_true rfl ?_
      | refine cw_false rfl ?_)
    refine cw_loop (fun s : Nat × Ar => [(0, va), (1, .int .i64 m), (5, ptr b 0), (6, .int .i64 (liveA s.2)), (7, .int .i64 s.1)])
      (fun s H' => s.1 ≤ turns.length ∧ As Non H H' b s.2 ∧ s.2.Wf ∧ s.2.most = m ∧ s.2.cs.length ≤ s.1 ∧ s.2.back.length ≤ s.1) (fun s => turns.length - s.1) (0, ⟨m, [], []⟩) (by repeat (first | exact True.intro | refine ⟨rfl, ?_⟩)) ⟨Nat.zero_le _, hA1, hw0, rfl, Nat.le_refl _, Nat.le_refl _⟩ ?_
    rintro ⟨i, a⟩ H2 ⟨hi, hA2, hwa, ham, hac, hab⟩
    simp only at hi ham hac hab
    have hA2 : As Non H H2 b a := hA2
    have hwa : a.Wf := hwa
    dsimp only
    have hlv := hwa.live.1
    have hle := hwa.le
    have hk2 := hA2.keep0
    repeat (first
      | refine x_move rfl rfl rfl trivial ?_
      | refine x_assign rfl rfl rfl trivial ?_
      | refine x_add rfl rfl rfl (wrap_i64 (by omega) (by omega)) rfl trivial ?_
      | refine x_sub_ rfl rfl rfl (wrap_i64 (by omega) (by omega)) rfl trivial ?_
      | refine x_sub_ rfl rfl rfl (wrap_u32 (by omega) (by omega)) rfl trivial ?_
      | refine x_add rfl rfl rfl (wrap_u32 (by omega) (by omega)) rfl trivial ?_
      | refine x_peqn rfl rfl rfl rfl trivial ?_
      | refine x_pnen rfl rfl rfl rfl trivial ?_
      | refine x_mul rfl rfl rfl (wrap_i64 (by omega) (by omega)) rfl trivial ?_
      | refine x_ibin rfl rfl rfl rfl rfl trivial ?_
      | refine x_neg_ rfl rfl (wrap_i64 (by omega) (by omega)) rfl trivial ?_
      | refine x_len rfl rfl (by assumption) rfl trivial ?_
      | refine x_pick_t rfl rfl rfl rfl trivial ?_
      | refine x_pick_f rfl rfl rfl rfl trivial ?_
      | refine x_not rfl rfl rfl trivial ?_
      | refine x_beq rfl rfl rfl rfl trivial ?_
      | refine x_bne rfl rfl rfl rfl trivial ?_
      | refine x_extract rfl rfl rfl rfl trivial ?_
      | refine x_nilCheck rfl rfl rfl trivial ?_
      | refine x_fieldAddr rfl rfl rfl rfl trivial ?_
      | refine x_skip trivial rfl rfl rfl ?_
      | refine x_indexAddr1 rfl rfl rfl (by assumption) (by omega) (by omega) rfl trivial ?_
      | refine x_indexAddr rfl rfl rfl (by assumption) (by omega) (by omega) rfl trivial ?_
      | refine x_nil ?_
      | refine cw_seq ?_
      | refine nw_seq ?_
      | refine nw_block ?_
      | refine cw_block ?_
      | refine cw_skip ?_
      | refine cw_region ?_
      | refine cw_exit rfl ?_
      | refine cw_true rfl ?_
      | refine cw_false rfl ?_)
    refine cw_cond rfl (fun hlt => ?_) (fun hlt => ?_) <;> (try simp at hlt)
    · obtain ⟨t, ht⟩ : ∃ t, turns[i]? = some t := ⟨_, List.getElem?_eq_getElem hlt⟩
      have hct := hk2.cel (hA i t ht) (fun h => h)
      have b2 := low_bd t (m := 100) (by omega)
      repeat (first
        | refine x_move rfl rfl rfl trivial ?_
        | refine x_assign rfl rfl rfl trivial ?_
        | refine x_add rfl rfl rfl (wrap_i64 (by omega) (by omega)) rfl trivial ?_
        | refine x_sub_ rfl rfl rfl (wrap_i64 (by omega) (by omega)) rfl trivial ?_
        | refine x_sub_ rfl rfl rfl (wrap_u32 (by omega) (by omega)) rfl trivial ?_
        | refine x_add rfl rfl rfl (wrap_u32 (by omega) (by omega)) rfl trivial ?_
        | refine x_peqn rfl rfl rfl rfl trivial ?_
        | refine x_pnen rfl rfl rfl rfl trivial ?_
        | refine x_mul rfl rfl rfl (wrap_i64 (by omega) (by omega)) rfl trivial ?_
        | refine x_ibin rfl rfl rfl rfl rfl trivial ?_
        | refine x_neg_ rfl rfl (wrap_i64 (by omega) (by omega)) rfl trivial ?_
        | refine x_len rfl rfl (by assumption) rfl trivial ?_
        | refine x_pick_t rfl rfl rfl rfl trivial ?_
        | refine x_pick_f rfl rfl rfl rfl trivial ?_
        | refine x_not rfl rfl rfl trivial ?_
        | refine x_beq rfl rfl rfl rfl trivial ?_
        | refine x_bne rfl rfl rfl rfl trivial ?_
        | refine x_extract rfl rfl rfl rfl trivial ?_
        | refine x_nilCheck rfl rfl rfl trivial ?_
        | refine x_fieldAddr rfl rfl rfl rfl trivial ?_
        | refine x_skip trivial rfl rfl rfl ?_
        | refine x_indexAddr1 rfl rfl rfl (by assumption) (by omega) (by omega) rfl trivial ?_
        | refine x_indexAddr rfl rfl rfl (by assumption) (by omega) (by omega) rfl trivial ?_
        | refine x_nil ?_
        | refine cw_seq ?_
        | refine nw_seq ?_
        | refine nw_block ?_
        | refine cw_block ?_
        | refine cw_skip ?_
        | refine cw_region ?_
        | refine cw_exit rfl ?_
        | refine cw_true rfl ?_
        | refine cw_false rfl ?_)
      refine x_load rfl rfl (hpmt (hct)) rfl trivial ?_
      refine x_call rfl rfl rfl trivial (law_LowF t 100 (by omega) H2) ?_
      rintro _ _ ⟨rfl, rfl⟩
      refine ⟨trivial, ?_⟩
      obtain ⟨n, hn⟩ : ∃ n : Nat, low t 100 = (n : Int) := ⟨(low t 100).toNat, by omega⟩
      rw [hn] at b2 ⊢
      repeat (first
        | refine x_move rfl rfl rfl trivial ?_
        | refine x_assign rfl rfl rfl trivial ?_
        | refine x_add rfl rfl rfl (wrap_i64 (by omega) (by omega)) rfl trivial ?_
        | refine x_sub_ rfl rfl rfl (wrap_i64 (by omega) (by omega)) rfl trivial ?_
        | refine x_sub_ rfl rfl rfl (wrap_u32 (by omega) (by omega)) rfl trivial ?_
        | refine x_add rfl rfl rfl (wrap_u32 (by omega) (by omega)) rfl trivial ?_
        | refine x_peqn rfl rfl rfl rfl trivial ?_
        | refine x_pnen rfl rfl rfl rfl trivial ?_
        | refine x_mul rfl rfl rfl (wrap_i64 (by omega) (by omega)) rfl trivial ?_
        | refine x_ibin rfl rfl rfl rfl rfl trivial ?_
        | refine x_neg_ rfl rfl (wrap_i64 (by omega) (by omega)) rfl trivial ?_
        | refine x_len rfl rfl (by assumption) rfl trivial ?_
        | refine x_pick_t rfl rfl rfl rfl trivial ?_
        | refine x_pick_f rfl rfl rfl rfl trivial ?_
        | refine x_not rfl rfl rfl trivial ?_
        | refine x_beq rfl rfl rfl rfl trivial ?_
        | refine x_bne rfl rfl rfl rfl trivial ?_
        | refine x_extract rfl rfl rfl rfl trivial ?_
        | refine x_nilCheck rfl rfl rfl trivial ?_
        | refine x_fieldAddr rfl rfl rfl rfl trivial ?_
        | refine x_skip trivial rfl rfl rfl ?_
        | refine x_indexAddr1 rfl rfl rfl (by assumption) (by omega) (by omega) rfl trivial ?_
        | refine x_indexAddr rfl rfl rfl (by assumption) (by omega) (by omega) rfl trivial ?_
        | refine x_nil ?_
        | refine cw_seq ?_
        | refine nw_seq ?_
        | refine nw_block ?_
        | refine cw_block ?_
        | refine cw_skip ?_
        | refine cw_region ?_
        | refine cw_exit rfl ?_
        | refine cw_true rfl ?_
        | refine cw_false rfl ?_)
      refine x_call rfl rfl rfl trivial (as_Handles (a := a) hA2 (by omega)) ?_
      rintro vh H3 ⟨hk3, hV, hfV⟩
      refine ⟨trivial, ?_⟩
      have hA3 : As Non H H3 b a := hA2.stepN hk3
      have hA3' : As (Zn vh) H H3 b a := hA2.step hk3 (fun _ h => h.elim) (fun x e => ⟨.inr (by rw [e.1]; exact hfV e.2), by rw [e.1]; exact hV.lt e.2⟩)
      have sV := hV.sl
      have cV := sV.cap
      have hhl := handles_len hwa
      repeat (first
        | refine x_move rfl rfl rfl trivial ?_
        | refine x_assign rfl rfl rfl trivial ?_
        | refine x_add rfl rfl rfl (wrap_i64 (by omega) (by omega)) rfl trivial ?_
        | refine x_sub_ rfl rfl rfl (wrap_i64 (by omega) (by omega)) rfl trivial ?_
        | refine x_sub_ rfl rfl rfl (wrap_u32 (by omega) (by omega)) rfl trivial ?_
        | refine x_add rfl rfl rfl (wrap_u32 (by omega) (by omega)) rfl trivial ?_
        | refine x_peqn rfl rfl rfl rfl trivial ?_
        | refine x_pnen rfl rfl rfl rfl trivial ?_
        | refine x_mul rfl rfl rfl (wrap_i64 (by omega) (by omega)) rfl trivial ?_
        | refine x_ibin rfl rfl rfl rfl rfl trivial ?_
        | refine x_neg_ rfl rfl (wrap_i64 (by omega) (by omega)) rfl trivial ?_
        | refine x_len rfl rfl (by assumption) rfl trivial ?_
        | refine x_pick_t rfl rfl rfl rfl trivial ?_
        | refine x_pick_f rfl rfl rfl rfl trivial ?_
        | refine x_not rfl rfl rfl trivial ?_
        | refine x_beq rfl rfl rfl rfl trivial ?_
        | refine x_bne rfl rfl rfl rfl trivial ?_
        | refine x_extract rfl rfl rfl rfl trivial ?_
        | refine x_nilCheck rfl rfl rfl trivial ?_
        | refine x_fieldAddr rfl rfl rfl rfl trivial ?_
        | refine x_skip trivial rfl rfl rfl ?_
        | refine x_indexAddr1 rfl rfl rfl (by assumption) (by omega) (by omega) rfl trivial ?_
        | refine x_indexAddr rfl rfl rfl (by assumption) (by omega) (by omega) rfl trivial ?_
        | refine x_nil ?_
        | refine cw_seq ?_
        | refine nw_seq ?_
        | refine nw_block ?_
        | refine cw_block ?_
        | refine cw_skip ?_
        | refine cw_region ?_
        | refine cw_exit rfl ?_
        | refine cw_true rfl ?_
        | refine cw_false rfl ?_)
      refine x_false 40 rfl (by simp [hhl]) ?_
      repeat (first
        | refine x_move rfl rfl rfl trivial ?_
        | refine x_assign rfl rfl rfl trivial ?_
        | refine x_add rfl rfl rfl (wrap_i64 (by omega) (by omega)) rfl trivial ?_
        | refine x_sub_ rfl rfl rfl (wrap_i64 (by omega) (by omega)) rfl trivial ?_
        | refine x_sub_ rfl rfl rfl (wrap_u32 (by omega) (by omega)) rfl trivial ?_
        | refine x_add rfl rfl rfl (wrap_u32 (by omega) (by omega)) rfl trivial ?_
        | refine x_peqn rfl rfl rfl rfl trivial ?_
        | refine x_pnen rfl rfl rfl rfl trivial ?_
        | refine x_mul rfl rfl rfl (wrap_i64 (by omega) (by omega)) rfl trivial ?_
        | refine x_ibin rfl rfl rfl rfl rfl trivial ?_
        | refine x_neg_ rfl rfl (wrap_i64 (by omega) (by omega)) rfl trivial ?_
        | refine x_len rfl rfl (by assumption) rfl trivial ?_
        | refine x_pick_t rfl rfl rfl rfl trivial ?_
        | refine x_pick_f rfl rfl rfl rfl trivial ?_
        | refine x_not rfl rfl rfl trivial ?_
        | refine x_beq rfl rfl rfl rfl trivial ?_
        | refine x_bne rfl rfl rfl rfl trivial ?_
        | refine x_extract rfl rfl rfl rfl trivial ?_
        | refine x_nilCheck rfl rfl rfl trivial ?_
        | refine x_fieldAddr rfl rfl rfl rfl trivial ?_
        | refine x_skip trivial rfl rfl rfl ?_
        | refine x_indexAddr1 rfl rfl rfl (by assumption) (by omega) (by omega) rfl trivial ?_
        | refine x_indexAddr rfl rfl rfl (by assumption) (by omega) (by omega) rfl trivial ?_
        | refine x_nil ?_
        | refine cw_seq ?_
        | refine nw_seq ?_
        | refine nw_block ?_
        | refine cw_block ?_
        | refine cw_skip ?_
        | refine cw_region ?_
        | refine cw_exit rfl ?_
        | refine cw_true rfl ?_
        | refine cw_false rfl ?_)
      refine x_call rfl rfl rfl trivial (as_Live (a := a) hA3 (by omega) (by omega)) ?_
      rintro _ _ ⟨rfl, rfl⟩
      refine ⟨trivial, ?_⟩
      repeat (first
        | refine x_move rfl rfl rfl trivial ?_
        | refine x_assign rfl rfl rfl trivial ?_
        | refine x_add rfl rfl rfl (wrap_i64 (by omega) (by omega)) rfl trivial ?_
        | refine x_sub_ rfl rfl rfl (wrap_i64 (by omega) (by omega)) rfl trivial ?_
        | refine x_sub_ rfl rfl rfl (wrap_u32 (by omega) (by omega)) rfl trivial ?_
        | refine x_add rfl rfl rfl (wrap_u32 (by omega) (by omega)) rfl trivial ?_
        | refine x_peqn rfl rfl rfl rfl trivial ?_
        | refine x_pnen rfl rfl rfl rfl trivial ?_
        | refine x_mul rfl rfl rfl (wrap_i64 (by omega) (by omega)) rfl trivial ?_
        | refine x_ibin rfl rfl rfl rfl rfl trivial ?_
        | refine x_neg_ rfl rfl (wrap_i64 (by omega) (by omega)) rfl trivial ?_
        | refine x_len rfl rfl (by assumption) rfl trivial ?_
        | refine x_pick_t rfl rfl rfl rfl trivial ?_
        | refine x_pick_f rfl rfl rfl rfl trivial ?_
        | refine x_not rfl rfl rfl trivial ?_
        | refine x_beq rfl rfl rfl rfl trivial ?_
        | refine x_bne rfl rfl rfl rfl trivial ?_
        | refine x_extract rfl rfl rfl rfl trivial ?_
        | refine x_nilCheck rfl rfl rfl trivial ?_
        | refine x_fieldAddr rfl rfl rfl rfl trivial ?_
        | refine x_skip trivial rfl rfl rfl ?_
        | refine x_indexAddr1 rfl rfl rfl (by assumption) (by omega) (by omega) rfl trivial ?_
        | refine x_indexAddr rfl rfl rfl (by assumption) (by omega) (by omega) rfl trivial ?_
        | refine x_nil ?_
        | refine cw_seq ?_
        | refine nw_seq ?_
        | refine nw_block ?_
        | refine cw_block ?_
        | refine cw_skip ?_
        | refine cw_region ?_
        | refine cw_exit rfl ?_
        | refine cw_true rfl ?_
        | refine cw_false rfl ?_)
      refine cw_cond rfl (fun h => absurd h (by simp)) (fun _ => ?_)
      repeat (first
        | refine x_move rfl rfl rfl trivial ?_
        | refine x_assign rfl rfl rfl trivial ?_
        | refine x_add rfl rfl rfl (wrap_i64 (by omega) (by omega)) rfl trivial ?_
        | refine x_sub_ rfl rfl rfl (wrap_i64 (by omega) (by omega)) rfl trivial ?_
        | refine x_mul rfl rfl rfl (wrap_i64 (by omega) (by omega)) rfl trivial ?_
        | refine x_ibin rfl rfl rfl rfl rfl trivial ?_
        | refine x_neg_ rfl rfl (wrap_i64 (by omega) (by omega)) rfl trivial ?_
        | refine x_len rfl rfl (by assumption) rfl trivial ?_
        | refine x_pick_t rfl rfl rfl rfl trivial ?_
        | refine x_pick_f rfl rfl rfl rfl trivial ?_
        | refine x_not rfl rfl rfl trivial ?_
        | refine x_beq rfl rfl rfl rfl trivial ?_
        | refine x_bne rfl rfl rfl rfl trivial ?_
        | refine x_extract rfl rfl rfl rfl trivial ?_
        | refine x_nilCheck rfl rfl rfl trivial ?_
        | refine x_fieldAddr rfl rfl rfl rfl trivial ?_
        | refine x_skip trivial rfl rfl rfl ?_
        | refine x_indexAddr1 rfl rfl rfl (by assumption) (by omega) (by omega) rfl trivial ?_
        | refine x_indexAddr rfl rfl rfl (by assumption) (by omega) (by omega) rfl trivial ?_
        | refine x_nil ?_
        | refine cw_seq ?_
        | refine nw_seq ?_
        | refine nw_block ?_
        | refine cw_block ?_
        | refine cw_skip ?_
        | refine cw_exit rfl ?_
        | refine cw_true rfl ?_
        | refine cw_false rfl ?_)
      refine cw_cut (fun w : Bool => [(0, va), (1, .int .i64 m), (5, ptr b 0), (6, .int .i64 (liveA a)), (7, .int .i64 i), (8, .int .i64 n), (9, vh), (52, .bool w)]) (fun w H' => H3 = H' ∧ (w = true → 0 < liveA a)) ?_ ?_
      · repeat (first
          | refine x_move rfl rfl rfl trivial ?_
          | refine x_assign rfl rfl rfl trivial ?_
          | refine x_add rfl rfl rfl (wrap_i64 (by omega) (by omega)) rfl trivial ?_
          | refine x_sub_ rfl rfl rfl (wrap_i64 (by omega) (by omega)) rfl trivial ?_
          | refine x_sub_ rfl rfl rfl (wrap_u32 (by omega) (by omega)) rfl trivial ?_
          | refine x_add rfl rfl rfl (wrap_u32 (by omega) (by omega)) rfl trivial ?_
          | refine x_peqn rfl rfl rfl rfl trivial ?_
          | refine x_pnen rfl rfl rfl rfl trivial ?_
          | refine x_mul rfl rfl rfl (wrap_i64 (by omega) (by omega)) rfl trivial ?_
          | refine x_ibin rfl rfl rfl rfl rfl trivial ?_
          | refine x_neg_ rfl rfl (wrap_i64 (by omega) (by omega)) rfl trivial ?_
          | refine x_len rfl rfl (by assumption) rfl trivial ?_
          | refine x_pick_t rfl rfl rfl rfl trivial ?_
          | refine x_pick_f rfl rfl rfl rfl trivial ?_
          | refine x_not rfl rfl rfl trivial ?_
          | refine x_beq rfl rfl rfl rfl trivial ?_
          | refine x_bne rfl rfl rfl rfl trivial ?_
          | refine x_extract rfl rfl rfl rfl trivial ?_
          | refine x_nilCheck rfl rfl rfl trivial ?_
          | refine x_fieldAddr rfl rfl rfl rfl trivial ?_
          | refine x_skip trivial rfl rfl rfl ?_
          | refine x_indexAddr1 rfl rfl rfl (by assumption) (by omega) (by omega) rfl trivial ?_
          | refine x_indexAddr rfl rfl rfl (by assumption) (by omega) (by omega) rfl trivial ?_
          | refine x_nil ?_
          | refine cw_seq ?_
          | refine nw_seq ?_
          | refine nw_block ?_
          | refine cw_block ?_
          | refine cw_skip ?_
          | refine cw_region ?_
          | refine cw_exit rfl ?_
          | refine cw_true rfl ?_
          | refine cw_false rfl ?_)
        refine x_rem rfl rfl rfl (by omega) rfl trivial ?_
        repeat (first
          | refine x_move rfl rfl rfl trivial ?_
          | refine x_assign rfl rfl rfl trivial ?_
          | refine x_add rfl rfl rfl (wrap_i64 (by omega) (by omega)) rfl trivial ?_
          | refine x_sub_ rfl rfl rfl (wrap_i64 (by omega) (by omega)) rfl trivial ?_
          | refine x_sub_ rfl rfl rfl (wrap_u32 (by omega) (by omega)) rfl trivial ?_
          | refine x_add rfl rfl rfl (wrap_u32 (by omega) (by omega)) rfl trivial ?_
          | refine x_peqn rfl rfl rfl rfl trivial ?_
          | refine x_pnen rfl rfl rfl rfl trivial ?_
          | refine x_mul rfl rfl rfl (wrap_i64 (by omega) (by omega)) rfl trivial ?_
          | refine x_ibin rfl rfl rfl rfl rfl trivial ?_
          | refine x_neg_ rfl rfl (wrap_i64 (by omega) (by omega)) rfl trivial ?_
          | refine x_len rfl rfl (by assumption) rfl trivial ?_
          | refine x_pick_t rfl rfl rfl rfl trivial ?_
          | refine x_pick_f rfl rfl rfl rfl trivial ?_
          | refine x_not rfl rfl rfl trivial ?_
          | refine x_beq rfl rfl rfl rfl trivial ?_
          | refine x_bne rfl rfl rfl rfl trivial ?_
          | refine x_extract rfl rfl rfl rfl trivial ?_
          | refine x_nilCheck rfl rfl rfl trivial ?_
          | refine x_fieldAddr rfl rfl rfl rfl trivial ?_
          | refine x_skip trivial rfl rfl rfl ?_
          | refine x_indexAddr1 rfl rfl rfl (by assumption) (by omega) (by omega) rfl trivial ?_
          | refine x_indexAddr rfl rfl rfl (by assumption) (by omega) (by omega) rfl trivial ?_
          | refine x_nil ?_
          | refine cw_seq ?_
          | refine nw_seq ?_
          | refine nw_block ?_
          | refine cw_block ?_
          | refine cw_skip ?_
          | refine cw_region ?_
          | refine cw_exit rfl ?_
          | refine cw_true rfl ?_
          | refine cw_false rfl ?_)
        refine x_split 49 rfl (fun h3 => ?_) (fun h3 => ?_) <;> (try simp at h3)
        · repeat (first
            | refine x_move rfl rfl rfl trivial ?_
            | refine x_assign rfl rfl rfl trivial ?_
            | refine x_add rfl rfl rfl (wrap_i64 (by omega) (by omega)) rfl trivial ?_
            | refine x_sub_ rfl rfl rfl (wrap_i64 (by omega) (by omega)) rfl trivial ?_
            | refine x_sub_ rfl rfl rfl (wrap_u32 (by omega) (by omega)) rfl trivial ?_
            | refine x_add rfl rfl rfl (wrap_u32 (by omega) (by omega)) rfl trivial ?_
            | refine x_peqn rfl rfl rfl rfl trivial ?_
            | refine x_pnen rfl rfl rfl rfl trivial ?_
            | refine x_mul rfl rfl rfl (wrap_i64 (by omega) (by omega)) rfl trivial ?_
            | refine x_ibin rfl rfl rfl rfl rfl trivial ?_
            | refine x_neg_ rfl rfl (wrap_i64 (by omega) (by omega)) rfl trivial ?_
            | refine x_len rfl rfl (by assumption) rfl trivial ?_
            | refine x_pick_t rfl rfl rfl rfl trivial ?_
            | refine x_pick_f rfl rfl rfl rfl trivial ?_
            | refine x_not rfl rfl rfl trivial ?_
            | refine x_beq rfl rfl rfl rfl trivial ?_
            | refine x_bne rfl rfl rfl rfl trivial ?_
            | refine x_extract rfl rfl rfl rfl trivial ?_
            | refine x_nilCheck rfl rfl rfl trivial ?_
            | refine x_fieldAddr rfl rfl rfl rfl trivial ?_
            | refine x_skip trivial rfl rfl rfl ?_
            | refine x_indexAddr1 rfl rfl rfl (by assumption) (by omega) (by omega) rfl trivial ?_
            | refine x_indexAddr rfl rfl rfl (by assumption) (by omega) (by omega) rfl trivial ?_
            | refine x_nil ?_
            | refine cw_seq ?_
            | refine nw_seq ?_
            | refine nw_block ?_
            | refine cw_block ?_
            | refine cw_skip ?_
            | refine cw_region ?_
            | refine cw_exit rfl ?_
            | refine cw_true rfl ?_
            | refine cw_false rfl ?_)
          exact nw_meet (decide (liveA a > 0)) (by repeat (first | exact True.intro | refine ⟨rfl, ?_⟩)) ⟨rfl, fun h => by simpa using h⟩
        · repeat (first
            | refine x_move rfl rfl rfl trivial ?_
            | refine x_assign rfl rfl rfl trivial ?_
            | refine x_add rfl rfl rfl (wrap_i64 (by omega) (by omega)) rfl trivial ?_
            | refine x_sub_ rfl rfl rfl (wrap_i64 (by omega) (by omega)) rfl trivial ?_
            | refine x_sub_ rfl rfl rfl (wrap_u32 (by omega) (by omega)) rfl trivial ?_
            | refine x_add rfl rfl rfl (wrap_u32 (by omega) (by omega)) rfl trivial ?_
            | refine x_peqn rfl rfl rfl rfl trivial ?_
            | refine x_pnen rfl rfl rfl rfl trivial ?_
            | refine x_mul rfl rfl rfl (wrap_i64 (by omega) (by omega)) rfl trivial ?_
            | refine x_ibin rfl rfl rfl rfl rfl trivial ?_
            | refine x_neg_ rfl rfl (wrap_i64 (by omega) (by omega)) rfl trivial ?_
            | refine x_len rfl rfl (by assumption) rfl trivial ?_
            | refine x_pick_t rfl rfl rfl rfl trivial ?_
            | refine x_pick_f rfl rfl rfl rfl trivial ?_
            | refine x_not rfl rfl rfl trivial ?_
            | refine x_beq rfl rfl rfl rfl trivial ?_
            | refine x_bne rfl rfl rfl rfl trivial ?_
            | refine x_extract rfl rfl rfl rfl trivial ?_
            | refine x_nilCheck rfl rfl rfl trivial ?_
            | refine x_fieldAddr rfl rfl rfl rfl trivial ?_
            | refine x_skip trivial rfl rfl rfl ?_
            | refine x_indexAddr1 rfl rfl rfl (by assumption) (by omega) (by omega) rfl trivial ?_
            | refine x_indexAddr rfl rfl rfl (by assumption) (by omega) (by omega) rfl trivial ?_
            | refine x_nil ?_
            | refine cw_seq ?_
            | refine nw_seq ?_
            | refine nw_block ?_
            | refine cw_block ?_
            | refine cw_skip ?_
            | refine cw_region ?_
            | refine cw_exit rfl ?_
            | refine cw_true rfl ?_
            | refine cw_false rfl ?_)
          exact nw_meet false (by repeat (first | exact True.intro | refine ⟨rfl, ?_⟩)) ⟨rfl, fun h => by cases h⟩
      · rintro w _ ⟨rfl, hw1⟩
        cases w with
        | true =>
          have hpos := hw1 rfl
          obtain ⟨L, hL⟩ : ∃ L : Nat, liveA a = (L : Int) := ⟨(liveA a).toNat, by omega⟩
          have er : (n : Int).tmod (liveA a) = ((n % L : Nat) : Int) := by rw [hL]; rfl
          have hr : n % L < L := Nat.mod_lt _ (by omega)
          obtain ⟨h, hh⟩ : ∃ h, (handlesA a)[n % L]? = some h := ⟨_, List.getElem?_eq_getElem (by omega)⟩
          obtain ⟨y, hy, hcv⟩ := hV.rd.cel1 encU_len hh
          rw [hy] at hcv
          obtain ⟨hhas, h1, h2⟩ := handles_has (List.mem_of_getElem? hh)
          have e : giveA a h = (0, ⟨a.most, a.cs.set (h - 1) ([], false), a.back ++ [h]⟩) := by unfold giveA; rw [if_neg (by rw [hhas]; simp)]
          have hwg := giveA_wf hwa h
          rw [e] at hwg
          simp only at hwg
          have es : sizeA ⟨a.most, a.cs.set (h - 1) ([], false), a.back ++ [h]⟩ h = 0 := by
            unfold sizeA
            rw [if_neg]
            unfold hasA
            show ¬ ((match (a.cs.set (h - 1) ([], false))[h - 1]? with | some x => decide (1 ≤ h) && x.2 | none => false) = true)
            rw [List.getElem?_set_self (by omega)]
            simp
          have hl : liveA ⟨a.most, a.cs.set (h - 1) ([], false), a.back ++ [h]⟩ = liveA a - 1 := by simp [liveA]; omega
          have sV2 : IsSl vh (handlesA a).length := sV
          repeat (first
            | refine x_move rfl rfl rfl trivial ?_
            | refine x_assign rfl rfl rfl trivial ?_
            | refine x_add rfl rfl rfl (wrap_i64 (by omega) (by omega)) rfl trivial ?_
            | refine x_sub_ rfl rfl rfl (wrap_i64 (by omega) (by omega)) rfl trivial ?_
            | refine x_sub_ rfl rfl rfl (wrap_u32 (by omega) (by omega)) rfl trivial ?_
            | refine x_add rfl rfl rfl (wrap_u32 (by omega) (by omega)) rfl trivial ?_
            | refine x_peqn rfl rfl rfl rfl trivial ?_
            | refine x_pnen rfl rfl rfl rfl trivial ?_
            | refine x_mul rfl rfl rfl (wrap_i64 (by omega) (by omega)) rfl trivial ?_
            | refine x_ibin rfl rfl rfl rfl rfl trivial ?_
            | refine x_neg_ rfl rfl (wrap_i64 (by omega) (by omega)) rfl trivial ?_
            | refine x_len rfl rfl (by assumption) rfl trivial ?_
            | refine x_pick_t rfl rfl rfl rfl trivial ?_
            | refine x_pick_f rfl rfl rfl rfl trivial ?_
            | refine x_not rfl rfl rfl trivial ?_
            | refine x_beq rfl rfl rfl rfl trivial ?_
            | refine x_bne rfl rfl rfl rfl trivial ?_
            | refine x_extract rfl rfl rfl rfl trivial ?_
            | refine x_nilCheck rfl rfl rfl trivial ?_
            | refine x_fieldAddr rfl rfl rfl rfl trivial ?_
            | refine x_skip trivial rfl rfl rfl ?_
            | refine x_indexAddr1 rfl rfl rfl (by assumption) (by omega) (by omega) rfl trivial ?_
            | refine x_indexAddr rfl rfl rfl (by assumption) (by omega) (by omega) rfl trivial ?_
            | refine x_nil ?_
            | refine cw_seq ?_
            | refine nw_seq ?_
            | refine nw_block ?_
            | refine cw_block ?_
            | refine cw_skip ?_
            | refine cw_region ?_
            | refine cw_exit rfl ?_
            | refine cw_true rfl ?_
            | refine cw_false rfl ?_)
          refine x_rem rfl rfl rfl (by omega) rfl trivial ?_
          rw [er]
          repeat (first
            | refine x_move rfl rfl rfl trivial ?_
            | refine x_assign rfl rfl rfl trivial ?_
            | refine x_add rfl rfl rfl (wrap_i64 (by omega) (by omega)) rfl trivial ?_
            | refine x_sub_ rfl rfl rfl (wrap_i64 (by omega) (by omega)) rfl trivial ?_
            | refine x_sub_ rfl rfl rfl (wrap_u32 (by omega) (by omega)) rfl trivial ?_
            | refine x_add rfl rfl rfl (wrap_u32 (by omega) (by omega)) rfl trivial ?_
            | refine x_peqn rfl rfl rfl rfl trivial ?_
            | refine x_pnen rfl rfl rfl rfl trivial ?_
            | refine x_mul rfl rfl rfl (wrap_i64 (by omega) (by omega)) rfl trivial ?_
            | refine x_ibin rfl rfl rfl rfl rfl trivial ?_
            | refine x_neg_ rfl rfl (wrap_i64 (by omega) (by omega)) rfl trivial ?_
            | refine x_len rfl rfl (by assumption) rfl trivial ?_
            | refine x_pick_t rfl rfl rfl rfl trivial ?_
            | refine x_pick_f rfl rfl rfl rfl trivial ?_
            | refine x_not rfl rfl rfl trivial ?_
            | refine x_beq rfl rfl rfl rfl trivial ?_
            | refine x_bne rfl rfl rfl rfl trivial ?_
            | refine x_extract rfl rfl rfl rfl trivial ?_
            | refine x_nilCheck rfl rfl rfl trivial ?_
            | refine x_fieldAddr rfl rfl rfl rfl trivial ?_
            | refine x_skip trivial rfl rfl rfl ?_
            | refine x_indexAddr1 rfl rfl rfl (by assumption) (by omega) (by omega) rfl trivial ?_
            | refine x_indexAddr rfl rfl rfl (by assumption) (by omega) (by omega) rfl trivial ?_
            | refine x_nil ?_
            | refine cw_seq ?_
            | refine nw_seq ?_
            | refine nw_block ?_
            | refine cw_block ?_
            | refine cw_skip ?_
            | refine cw_region ?_
            | refine cw_exit rfl ?_
            | refine cw_true rfl ?_
            | refine cw_false rfl ?_)
          refine x_load rfl rfl (hpmt (hcv)) rfl trivial ?_
          refine x_call rfl rfl rfl trivial (as_Give (a := a) (h := h) hA3' (by omega) (by omega) (by omega)) ?_
          rintro _ H4 ⟨rfl, hA4, hk4⟩
          refine ⟨trivial, ?_⟩
          rw [e] at hA4 ⊢
          simp only at hA4
          have hV4 := own_keep hV hk4
          obtain ⟨y4, hy4, hcv4⟩ := hV4.rd.cel1 encU_len hh
          rw [hy4] at hcv4
          repeat (first
            | refine x_move rfl rfl rfl trivial ?_
            | refine x_assign rfl rfl rfl trivial ?_
            | refine x_add rfl rfl rfl (wrap_i64 (by omega) (by omega)) rfl trivial ?_
            | refine x_sub_ rfl rfl rfl (wrap_i64 (by omega) (by omega)) rfl trivial ?_
            | refine x_sub_ rfl rfl rfl (wrap_u32 (by omega) (by omega)) rfl trivial ?_
            | refine x_add rfl rfl rfl (wrap_u32 (by omega) (by omega)) rfl trivial ?_
            | refine x_peqn rfl rfl rfl rfl trivial ?_
            | refine x_pnen rfl rfl rfl rfl trivial ?_
            | refine x_mul rfl rfl rfl (wrap_i64 (by omega) (by omega)) rfl trivial ?_
            | refine x_ibin rfl rfl rfl rfl rfl trivial ?_
            | refine x_neg_ rfl rfl (wrap_i64 (by omega) (by omega)) rfl trivial ?_
            | refine x_len rfl rfl (by assumption) rfl trivial ?_
            | refine x_pick_t rfl rfl rfl rfl trivial ?_
            | refine x_pick_f rfl rfl rfl rfl trivial ?_
            | refine x_not rfl rfl rfl trivial ?_
            | refine x_beq rfl rfl rfl rfl trivial ?_
            | refine x_bne rfl rfl rfl rfl trivial ?_
            | refine x_extract rfl rfl rfl rfl trivial ?_
            | refine x_nilCheck rfl rfl rfl trivial ?_
            | refine x_fieldAddr rfl rfl rfl rfl trivial ?_
            | refine x_skip trivial rfl rfl rfl ?_
            | refine x_indexAddr1 rfl rfl rfl (by assumption) (by omega) (by omega) rfl trivial ?_
            | refine x_indexAddr rfl rfl rfl (by assumption) (by omega) (by omega) rfl trivial ?_
            | refine x_nil ?_
            | refine cw_seq ?_
            | refine nw_seq ?_
            | refine nw_block ?_
            | refine cw_block ?_
            | refine cw_skip ?_
            | refine cw_region ?_
            | refine cw_exit rfl ?_
            | refine cw_true rfl ?_
            | refine cw_false rfl ?_)
          refine x_rem rfl rfl rfl (by omega) rfl trivial ?_
          rw [er]
          repeat (first
            | refine x_move rfl rfl rfl trivial ?_
            | refine x_assign rfl rfl rfl trivial ?_
            | refine x_add rfl rfl rfl (wrap_i64 (by omega) (by omega)) rfl trivial ?_
            | refine x_sub_ rfl rfl rfl (wrap_i64 (by omega) (by omega)) rfl trivial ?_
            | refine x_sub_ rfl rfl rfl (wrap_u32 (by omega) (by omega)) rfl trivial ?_
            | refine x_add rfl rfl rfl (wrap_u32 (by omega) (by omega)) rfl trivial ?_
            | refine x_peqn rfl rfl rfl rfl trivial ?_
            | refine x_pnen rfl rfl rfl rfl trivial ?_
            | refine x_mul rfl rfl rfl (wrap_i64 (by omega) (by omega)) rfl trivial ?_
            | refine x_ibin rfl rfl rfl rfl rfl trivial ?_
            | refine x_neg_ rfl rfl (wrap_i64 (by omega) (by omega)) rfl trivial ?_
            | refine x_len rfl rfl (by assumption) rfl trivial ?_
            | refine x_pick_t rfl rfl rfl rfl trivial ?_
            | refine x_pick_f rfl rfl rfl rfl trivial ?_
            | refine x_not rfl rfl rfl trivial ?_
            | refine x_beq rfl rfl rfl rfl trivial ?_
            | refine x_bne rfl rfl rfl rfl trivial ?_
            | refine x_extract rfl rfl rfl rfl trivial ?_
            | refine x_nilCheck rfl rfl rfl trivial ?_
            | refine x_fieldAddr rfl rfl rfl rfl trivial ?_
            | refine x_skip trivial rfl rfl rfl ?_
            | refine x_indexAddr1 rfl rfl rfl (by assumption) (by omega) (by omega) rfl trivial ?_
            | refine x_indexAddr rfl rfl rfl (by assumption) (by omega) (by omega) rfl trivial ?_
            | refine x_nil ?_
            | refine cw_seq ?_
            | refine nw_seq ?_
            | refine nw_block ?_
            | refine cw_block ?_
            | refine cw_skip ?_
            | refine cw_region ?_
            | refine cw_exit rfl ?_
            | refine cw_true rfl ?_
            | refine cw_false rfl ?_)
          refine x_load rfl rfl (hpmt (hcv4)) rfl trivial ?_
          refine x_call rfl rfl rfl trivial (as_Size (h := h) hA4 (by omega) (by simp; omega)) ?_
          rintro _ _ ⟨rfl, rfl⟩
          refine ⟨trivial, ?_⟩
          rw [es]
          repeat (first
            | refine x_move rfl rfl rfl trivial ?_
            | refine x_assign rfl rfl rfl trivial ?_
            | refine x_add rfl rfl rfl (wrap_i64 (by omega) (by omega)) rfl trivial ?_
            | refine x_sub_ rfl rfl rfl (wrap_i64 (by omega) (by omega)) rfl trivial ?_
            | refine x_sub_ rfl rfl rfl (wrap_u32 (by omega) (by omega)) rfl trivial ?_
            | refine x_add rfl rfl rfl (wrap_u32 (by omega) (by omega)) rfl trivial ?_
            | refine x_peqn rfl rfl rfl rfl trivial ?_
            | refine x_pnen rfl rfl rfl rfl trivial ?_
            | refine x_mul rfl rfl rfl (wrap_i64 (by omega) (by omega)) rfl trivial ?_
            | refine x_ibin rfl rfl rfl rfl rfl trivial ?_
            | refine x_neg_ rfl rfl (wrap_i64 (by omega) (by omega)) rfl trivial ?_
            | refine x_len rfl rfl (by assumption) rfl trivial ?_
            | refine x_pick_t rfl rfl rfl rfl trivial ?_
            | refine x_pick_f rfl rfl rfl rfl trivial ?_
            | refine x_not rfl rfl rfl trivial ?_
            | refine x_beq rfl rfl rfl rfl trivial ?_
            | refine x_bne rfl rfl rfl rfl trivial ?_
            | refine x_extract rfl rfl rfl rfl trivial ?_
            | refine x_nilCheck rfl rfl rfl trivial ?_
            | refine x_fieldAddr rfl rfl rfl rfl trivial ?_
            | refine x_skip trivial rfl rfl rfl ?_
            | refine x_indexAddr1 rfl rfl rfl (by assumption) (by omega) (by omega) rfl trivial ?_
            | refine x_indexAddr rfl rfl rfl (by assumption) (by omega) (by omega) rfl trivial ?_
            | refine x_nil ?_
            | refine cw_seq ?_
            | refine nw_seq ?_
            | refine nw_block ?_
            | refine cw_block ?_
            | refine cw_skip ?_
            | refine cw_region ?_
            | refine cw_exit rfl ?_
            | refine cw_true rfl ?_
            | refine cw_false rfl ?_)
          rw [← hl]
          refine nw_round (i + 1, ⟨a.most, a.cs.set (h - 1) ([], false), a.back ++ [h]⟩) (by repeat (first | exact True.intro | refine ⟨rfl, ?_⟩)) ⟨by show i + 1 ≤ _; omega, hA4.step (Keep.refl Non H4) (fun _ h => h.elim) (fun _ h => h.elim), hwg, ham, by simp; omega, by simp; omega⟩ (by show turns.length - (i + 1) < turns.length - i; omega)
        | false =>
          repeat (first
            | refine x_move rfl rfl rfl trivial ?_
            | refine x_assign rfl rfl rfl trivial ?_
            | refine x_add rfl rfl rfl (wrap_i64 (by omega) (by omega)) rfl trivial ?_
            | refine x_sub_ rfl rfl rfl (wrap_i64 (by omega) (by omega)) rfl trivial ?_
            | refine x_sub_ rfl rfl rfl (wrap_u32 (by omega) (by omega)) rfl trivial ?_
            | refine x_add rfl rfl rfl (wrap_u32 (by omega) (by omega)) rfl trivial ?_
            | refine x_peqn rfl rfl rfl rfl trivial ?_
            | refine x_pnen rfl rfl rfl rfl trivial ?_
            | refine x_mul rfl rfl rfl (wrap_i64 (by omega) (by omega)) rfl trivial ?_
            | refine x_ibin rfl rfl rfl rfl rfl trivial ?_
            | refine x_neg_ rfl rfl (wrap_i64 (by omega) (by omega)) rfl trivial ?_
            | refine x_len rfl rfl (by assumption) rfl trivial ?_
            | refine x_pick_t rfl rfl rfl rfl trivial ?_
            | refine x_pick_f rfl rfl rfl rfl trivial ?_
            | refine x_not rfl rfl rfl trivial ?_
            | refine x_beq rfl rfl rfl rfl trivial ?_
            | refine x_bne rfl rfl rfl rfl trivial ?_
            | refine x_extract rfl rfl rfl rfl trivial ?_
            | refine x_nilCheck rfl rfl rfl trivial ?_
            | refine x_fieldAddr rfl rfl rfl rfl trivial ?_
            | refine x_skip trivial rfl rfl rfl ?_
            | refine x_indexAddr1 rfl rfl rfl (by assumption) (by omega) (by omega) rfl trivial ?_
            | refine x_indexAddr rfl rfl rfl (by assumption) (by omega) (by omega) rfl trivial ?_
            | refine x_nil ?_
            | refine cw_seq ?_
            | refine nw_seq ?_
            | refine nw_block ?_
            | refine cw_block ?_
            | refine cw_skip ?_
            | refine cw_region ?_
            | refine cw_exit rfl ?_
            | refine cw_true rfl ?_
            | refine cw_false rfl ?_)
          refine x_conv_int rfl rfl rfl trivial ?_
          refine x_buildSlice (vs := u64s [IntKind.u64.wrap (n : Int)]) rfl rfl rfl rfl (by omega) (u64s_oneC _) rfl trivial ?_
          intro H4 hn4
          refine ⟨trivial, ?_⟩
          refine x_call rfl rfl rfl trivial (as_Take (a := a) (ws := [IntKind.u64.wrap (n : Int)]) (hA3'.stepN hn4.keep) hwa ⟨isSl_some (Nat.le_refl _) (by omega), hn4.blk.cels 0 1 (by simp [u64s])⟩ (by simp) (by omega) (by omega)) ?_
          rintro _ H5 ⟨rfl, hA5, hk5⟩
          refine ⟨trivial, ?_⟩
          have hV5 := own_keep (hV.keepN hn4.keep) hk5
          have hA5 : As Non H H5 b _ := hA5.step (Keep.refl Non H5) (fun _ h => h.elim) (fun _ h => h.elim)
          obtain ⟨l1, l2, l3⟩ := takeA_len a [IntKind.u64.wrap (n : Int)]
          have hwt := takeA_wf hwa [IntKind.u64.wrap (n : Int)]
          by_cases hfull : a.most - liveA a = 0
          · have e : takeA a [IntKind.u64.wrap (n : Int)] = (0, 4, a) := by unfold takeA; rw [if_neg (by simp), if_pos hfull]
            rw [e] at hA5 ⊢
            simp only at hA5
            repeat (first
              | refine x_move rfl rfl rfl trivial ?_
              | refine x_assign rfl rfl rfl trivial ?_
              | refine x_add rfl rfl rfl (wrap_i64 (by omega) (by omega)) rfl trivial ?_
              | refine x_sub_ rfl rfl rfl (wrap_i64 (by omega) (by omega)) rfl trivial ?_
              | refine x_sub_ rfl rfl rfl (wrap_u32 (by omega) (by omega)) rfl trivial ?_
              | refine x_add rfl rfl rfl (wrap_u32 (by omega) (by omega)) rfl trivial ?_
              | refine x_peqn rfl rfl rfl rfl trivial ?_
              | refine x_pnen rfl rfl rfl rfl trivial ?_
              | refine x_mul rfl rfl rfl (wrap_i64 (by omega) (by omega)) rfl trivial ?_
              | refine x_ibin rfl rfl rfl rfl rfl trivial ?_
              | refine x_neg_ rfl rfl (wrap_i64 (by omega) (by omega)) rfl trivial ?_
              | refine x_len rfl rfl (by assumption) rfl trivial ?_
              | refine x_pick_t rfl rfl rfl rfl trivial ?_
              | refine x_pick_f rfl rfl rfl rfl trivial ?_
              | refine x_not rfl rfl rfl trivial ?_
              | refine x_beq rfl rfl rfl rfl trivial ?_
              | refine x_bne rfl rfl rfl rfl trivial ?_
              | refine x_extract rfl rfl rfl rfl trivial ?_
              | refine x_nilCheck rfl rfl rfl trivial ?_
              | refine x_fieldAddr rfl rfl rfl rfl trivial ?_
              | refine x_skip trivial rfl rfl rfl ?_
              | refine x_indexAddr1 rfl rfl rfl (by assumption) (by omega) (by omega) rfl trivial ?_
              | refine x_indexAddr rfl rfl rfl (by assumption) (by omega) (by omega) rfl trivial ?_
              | refine x_nil ?_
              | refine cw_seq ?_
              | refine nw_seq ?_
              | refine nw_block ?_
              | refine cw_block ?_
              | refine cw_skip ?_
              | refine cw_region ?_
              | refine cw_exit rfl ?_
              | refine cw_true rfl ?_
              | refine cw_false rfl ?_)
            refine x_false 89 rfl (by simp; omega) ?_
            repeat (first
              | refine x_move rfl rfl rfl trivial ?_
              | refine x_assign rfl rfl rfl trivial ?_
              | refine x_add rfl rfl rfl (wrap_i64 (by omega) (by omega)) rfl trivial ?_
              | refine x_sub_ rfl rfl rfl (wrap_i64 (by omega) (by omega)) rfl trivial ?_
              | refine x_sub_ rfl rfl rfl (wrap_u32 (by omega) (by omega)) rfl trivial ?_
              | refine x_add rfl rfl rfl (wrap_u32 (by omega) (by omega)) rfl trivial ?_
              | refine x_peqn rfl rfl rfl rfl trivial ?_
              | refine x_pnen rfl rfl rfl rfl trivial ?_
              | refine x_mul rfl rfl rfl (wrap_i64 (by omega) (by omega)) rfl trivial ?_
              | refine x_ibin rfl rfl rfl rfl rfl trivial ?_
              | refine x_neg_ rfl rfl (wrap_i64 (by omega) (by omega)) rfl trivial ?_
              | refine x_len rfl rfl (by assumption) rfl trivial ?_
              | refine x_pick_t rfl rfl rfl rfl trivial ?_
              | refine x_pick_f rfl rfl rfl rfl trivial ?_
              | refine x_not rfl rfl rfl trivial ?_
              | refine x_beq rfl rfl rfl rfl trivial ?_
              | refine x_bne rfl rfl rfl rfl trivial ?_
              | refine x_extract rfl rfl rfl rfl trivial ?_
              | refine x_nilCheck rfl rfl rfl trivial ?_
              | refine x_fieldAddr rfl rfl rfl rfl trivial ?_
              | refine x_skip trivial rfl rfl rfl ?_
              | refine x_indexAddr1 rfl rfl rfl (by assumption) (by omega) (by omega) rfl trivial ?_
              | refine x_indexAddr rfl rfl rfl (by assumption) (by omega) (by omega) rfl trivial ?_
              | refine x_nil ?_
              | refine cw_seq ?_
              | refine nw_seq ?_
              | refine nw_block ?_
              | refine cw_block ?_
              | refine cw_skip ?_
              | refine cw_region ?_
              | refine cw_exit rfl ?_
              | refine cw_true rfl ?_
              | refine cw_false rfl ?_)
            refine cw_loop (fun k : Nat => [(0, va), (1, .int .i64 m), (5, ptr b 0), (6, .int .i64 (liveA a)), (7, .int .i64 i), (9, vh), (10, .int .u32 (0)), (11, .int .i64 4), (12, .int .i64 k)]) (fun k H' => H5 = H' ∧ k ≤ (handlesA a).length) (fun k => (handlesA a).length - k) 0 (by repeat (first | exact True.intro | refine ⟨rfl, ?_⟩)) ⟨rfl, Nat.zero_le _⟩ ?_
            rintro k _ ⟨rfl, hk⟩
            repeat (first
              | refine x_move rfl rfl rfl trivial ?_
              | refine x_assign rfl rfl rfl trivial ?_
              | refine x_add rfl rfl rfl (wrap_i64 (by omega) (by omega)) rfl trivial ?_
              | refine x_sub_ rfl rfl rfl (wrap_i64 (by omega) (by omega)) rfl trivial ?_
              | refine x_sub_ rfl rfl rfl (wrap_u32 (by omega) (by omega)) rfl trivial ?_
              | refine x_add rfl rfl rfl (wrap_u32 (by omega) (by omega)) rfl trivial ?_
              | refine x_peqn rfl rfl rfl rfl trivial ?_
              | refine x_pnen rfl rfl rfl rfl trivial ?_
              | refine x_mul rfl rfl rfl (wrap_i64 (by omega) (by omega)) rfl trivial ?_
              | refine x_ibin rfl rfl rfl rfl rfl trivial ?_
              | refine x_neg_ rfl rfl (wrap_i64 (by omega) (by omega)) rfl trivial ?_
              | refine x_len rfl rfl (by assumption) rfl trivial ?_
              | refine x_pick_t rfl rfl rfl rfl trivial ?_
              | refine x_pick_f rfl rfl rfl rfl trivial ?_
              | refine x_not rfl rfl rfl trivial ?_
              | refine x_beq rfl rfl rfl rfl trivial ?_
              | refine x_bne rfl rfl rfl rfl trivial ?_
              | refine x_extract rfl rfl rfl rfl trivial ?_
              | refine x_nilCheck rfl rfl rfl trivial ?_
              | refine x_fieldAddr rfl rfl rfl rfl trivial ?_
              | refine x_skip trivial rfl rfl rfl ?_
              | refine x_indexAddr1 rfl rfl rfl (by assumption) (by omega) (by omega) rfl trivial ?_
              | refine x_indexAddr rfl rfl rfl (by assumption) (by omega) (by omega) rfl trivial ?_
              | refine x_nil ?_
              | refine cw_seq ?_
              | refine nw_seq ?_
              | refine nw_block ?_
              | refine cw_block ?_
              | refine cw_skip ?_
              | refine cw_region ?_
              | refine cw_exit rfl ?_
              | refine cw_true rfl ?_
              | refine cw_false rfl ?_)
            refine cw_cond rfl (fun hk2' => ?_) (fun hk2' => ?_) <;> simp at hk2'
            · obtain ⟨x, hx⟩ : ∃ x, (handlesA a)[k]? = some x := ⟨_, List.getElem?_eq_getElem hk2'⟩
              obtain ⟨y, hy, hcv⟩ := hV5.rd.cel1 encU_len hx
              rw [hy] at hcv
              obtain ⟨_, hx1, hx2⟩ := handles_has (List.mem_of_getElem? hx)
              have hne := take_new hwa (ws := [IntKind.u64.wrap (n : Int)]) (by simp) (List.mem_of_getElem? hx)
              repeat (first
                | refine x_move rfl rfl rfl trivial ?_
                | refine x_assign rfl rfl rfl trivial ?_
                | refine x_add rfl rfl rfl (wrap_i64 (by omega) (by omega)) rfl trivial ?_
                | refine x_sub_ rfl rfl rfl (wrap_i64 (by omega) (by omega)) rfl trivial ?_
                | refine x_sub_ rfl rfl rfl (wrap_u32 (by omega) (by omega)) rfl trivial ?_
                | refine x_add rfl rfl rfl (wrap_u32 (by omega) (by omega)) rfl trivial ?_
                | refine x_peqn rfl rfl rfl rfl trivial ?_
                | refine x_pnen rfl rfl rfl rfl trivial ?_
                | refine x_mul rfl rfl rfl (wrap_i64 (by omega) (by omega)) rfl trivial ?_
                | refine x_ibin rfl rfl rfl rfl rfl trivial ?_
                | refine x_neg_ rfl rfl (wrap_i64 (by omega) (by omega)) rfl trivial ?_
                | refine x_len rfl rfl (by assumption) rfl trivial ?_
                | refine x_pick_t rfl rfl rfl rfl trivial ?_
                | refine x_pick_f rfl rfl rfl rfl trivial ?_
                | refine x_not rfl rfl rfl trivial ?_
                | refine x_beq rfl rfl rfl rfl trivial ?_
                | refine x_bne rfl rfl rfl rfl trivial ?_
                | refine x_extract rfl rfl rfl rfl trivial ?_
                | refine x_nilCheck rfl rfl rfl trivial ?_
                | refine x_fieldAddr rfl rfl rfl rfl trivial ?_
                | refine x_skip trivial rfl rfl rfl ?_
                | refine x_indexAddr1 rfl rfl rfl (by assumption) (by omega) (by omega) rfl trivial ?_
                | refine x_indexAddr rfl rfl rfl (by assumption) (by omega) (by omega) rfl trivial ?_
                | refine x_nil ?_
                | refine cw_seq ?_
                | refine nw_seq ?_
                | refine nw_block ?_
                | refine cw_block ?_
                | refine cw_skip ?_
                | refine cw_region ?_
                | refine cw_exit rfl ?_
                | refine cw_true rfl ?_
                | refine cw_false rfl ?_)
              refine cw_quiet mixed (by kernel_rfl) ?_
              repeat (first
                | refine x_move rfl rfl rfl trivial ?_
                | refine x_assign rfl rfl rfl trivial ?_
                | refine x_add rfl rfl rfl (wrap_i64 (by omega) (by omega)) rfl trivial ?_
                | refine x_sub_ rfl rfl rfl (wrap_i64 (by omega) (by omega)) rfl trivial ?_
                | refine x_sub_ rfl rfl rfl (wrap_u32 (by omega) (by omega)) rfl trivial ?_
                | refine x_add rfl rfl rfl (wrap_u32 (by omega) (by omega)) rfl trivial ?_
                | refine x_peqn rfl rfl rfl rfl trivial ?_
                | refine x_pnen rfl rfl rfl rfl trivial ?_
                | refine x_mul rfl rfl rfl (wrap_i64 (by omega) (by omega)) rfl trivial ?_
                | refine x_ibin rfl rfl rfl rfl rfl trivial ?_
                | refine x_neg_ rfl rfl (wrap_i64 (by omega) (by omega)) rfl trivial ?_
                | refine x_len rfl rfl (by assumption) rfl trivial ?_
                | refine x_pick_t rfl rfl rfl rfl trivial ?_
                | refine x_pick_f rfl rfl rfl rfl trivial ?_
                | refine x_not rfl rfl rfl trivial ?_
                | refine x_beq rfl rfl rfl rfl trivial ?_
                | refine x_bne rfl rfl rfl rfl trivial ?_
                | refine x_extract rfl rfl rfl rfl trivial ?_
                | refine x_nilCheck rfl rfl rfl trivial ?_
                | refine x_fieldAddr rfl rfl rfl rfl trivial ?_
                | refine x_skip trivial rfl rfl rfl ?_
                | refine x_indexAddr1 rfl rfl rfl (by assumption) (by omega) (by omega) rfl trivial ?_
                | refine x_indexAddr rfl rfl rfl (by assumption) (by omega) (by omega) rfl trivial ?_
                | refine x_nil ?_
                | refine cw_seq ?_
                | refine nw_seq ?_
                | refine nw_block ?_
                | refine cw_block ?_
                | refine cw_skip ?_
                | refine cw_region ?_
                | refine cw_exit rfl ?_
                | refine cw_true rfl ?_
                | refine cw_false rfl ?_)
              refine x_load rfl rfl (hpmt (hcv)) rfl trivial ?_
              repeat (first
                | refine x_move rfl rfl rfl trivial ?_
                | refine x_assign rfl rfl rfl trivial ?_
                | refine x_add rfl rfl rfl (wrap_i64 (by omega) (by omega)) rfl trivial ?_
                | refine x_sub_ rfl rfl rfl (wrap_i64 (by omega) (by omega)) rfl trivial ?_
                | refine x_sub_ rfl rfl rfl (wrap_u32 (by omega) (by omega)) rfl trivial ?_
                | refine x_add rfl rfl rfl (wrap_u32 (by omega) (by omega)) rfl trivial ?_
                | refine x_peqn rfl rfl rfl rfl trivial ?_
                | refine x_pnen rfl rfl rfl rfl trivial ?_
                | refine x_mul rfl rfl rfl (wrap_i64 (by omega) (by omega)) rfl trivial ?_
                | refine x_ibin rfl rfl rfl rfl rfl trivial ?_
                | refine x_neg_ rfl rfl (wrap_i64 (by omega) (by omega)) rfl trivial ?_
                | refine x_len rfl rfl (by assumption) rfl trivial ?_
                | refine x_pick_t rfl rfl rfl rfl trivial ?_
                | refine x_pick_f rfl rfl rfl rfl trivial ?_
                | refine x_not rfl rfl rfl trivial ?_
                | refine x_beq rfl rfl rfl rfl trivial ?_
                | refine x_bne rfl rfl rfl rfl trivial ?_
                | refine x_extract rfl rfl rfl rfl trivial ?_
                | refine x_nilCheck rfl rfl rfl trivial ?_
                | refine x_fieldAddr rfl rfl rfl rfl trivial ?_
                | refine x_skip trivial rfl rfl rfl ?_
                | refine x_indexAddr1 rfl rfl rfl (by assumption) (by omega) (by omega) rfl trivial ?_
                | refine x_indexAddr rfl rfl rfl (by assumption) (by omega) (by omega) rfl trivial ?_
                | refine x_nil ?_
                | refine cw_seq ?_
                | refine nw_seq ?_
                | refine nw_block ?_
                | refine cw_block ?_
                | refine cw_skip ?_
                | refine cw_region ?_
                | refine cw_exit rfl ?_
                | refine cw_true rfl ?_
                | refine cw_false rfl ?_)
              refine x_false 113 rfl (by simp; omega) ?_
              repeat (first
                | refine x_move rfl rfl rfl trivial ?_
                | refine x_assign rfl rfl rfl trivial ?_
                | refine x_add rfl rfl rfl (wrap_i64 (by omega) (by omega)) rfl trivial ?_
                | refine x_sub_ rfl rfl rfl (wrap_i64 (by omega) (by omega)) rfl trivial ?_
                | refine x_sub_ rfl rfl rfl (wrap_u32 (by omega) (by omega)) rfl trivial ?_
                | refine x_add rfl rfl rfl (wrap_u32 (by omega) (by omega)) rfl trivial ?_
                | refine x_peqn rfl rfl rfl rfl trivial ?_
                | refine x_pnen rfl rfl rfl rfl trivial ?_
                | refine x_mul rfl rfl rfl (wrap_i64 (by omega) (by omega)) rfl trivial ?_
                | refine x_ibin rfl rfl rfl rfl rfl trivial ?_
                | refine x_neg_ rfl rfl (wrap_i64 (by omega) (by omega)) rfl trivial ?_
                | refine x_len rfl rfl (by assumption) rfl trivial ?_
                | refine x_pick_t rfl rfl rfl rfl trivial ?_
                | refine x_pick_f rfl rfl rfl rfl trivial ?_
                | refine x_not rfl rfl rfl trivial ?_
                | refine x_beq rfl rfl rfl rfl trivial ?_
                | refine x_bne rfl rfl rfl rfl trivial ?_
                | refine x_extract rfl rfl rfl rfl trivial ?_
                | refine x_nilCheck rfl rfl rfl trivial ?_
                | refine x_fieldAddr rfl rfl rfl rfl trivial ?_
                | refine x_skip trivial rfl rfl rfl ?_
                | refine x_indexAddr1 rfl rfl rfl (by assumption) (by omega) (by omega) rfl trivial ?_
                | refine x_indexAddr rfl rfl rfl (by assumption) (by omega) (by omega) rfl trivial ?_
                | refine x_nil ?_
                | refine cw_seq ?_
                | refine nw_seq ?_
                | refine nw_block ?_
                | refine cw_block ?_
                | refine cw_skip ?_
                | refine cw_region ?_
                | refine cw_exit rfl ?_
                | refine cw_true rfl ?_
                | refine cw_false rfl ?_)
              refine x_split 116 rfl (fun hkp => ?_) (fun hkp => ?_) <;> (try simp at hkp)
              · obtain ⟨k', rfl⟩ : ∃ k', k = k' + 1 := ⟨k - 1, by omega⟩
                have ek : ((k' + 1 : Nat) : Int) - 1 = (k' : Int) := by omega
                obtain ⟨z, hz⟩ : ∃ z, (handlesA a)[k']? = some z := ⟨_, List.getElem?_eq_getElem (by omega)⟩
                obtain ⟨z', hz', hcz⟩ := hV5.rd.cel1 encU_len hz
                rw [hz'] at hcz
                have hrise := handles_rise hz hx
                repeat (first
                  | refine x_move rfl rfl rfl trivial ?_
                  | refine x_assign rfl rfl rfl trivial ?_
                  | refine x_add rfl rfl rfl (wrap_i64 (by omega) (by omega)) rfl trivial ?_
                  | refine x_sub_ rfl rfl rfl (wrap_i64 (by omega) (by omega)) rfl trivial ?_
                  | refine x_sub_ rfl rfl rfl (wrap_u32 (by omega) (by omega)) rfl trivial ?_
                  | refine x_add rfl rfl rfl (wrap_u32 (by omega) (by omega)) rfl trivial ?_
                  | refine x_peqn rfl rfl rfl rfl trivial ?_
                  | refine x_pnen rfl rfl rfl rfl trivial ?_
                  | refine x_mul rfl rfl rfl (wrap_i64 (by omega) (by omega)) rfl trivial ?_
                  | refine x_ibin rfl rfl rfl rfl rfl trivial ?_
                  | refine x_neg_ rfl rfl (wrap_i64 (by omega) (by omega)) rfl trivial ?_
                  | refine x_len rfl rfl (by assumption) rfl trivial ?_
                  | refine x_pick_t rfl rfl rfl rfl trivial ?_
                  | refine x_pick_f rfl rfl rfl rfl trivial ?_
                  | refine x_not rfl rfl rfl trivial ?_
                  | refine x_beq rfl rfl rfl rfl trivial ?_
                  | refine x_bne rfl rfl rfl rfl trivial ?_
                  | refine x_extract rfl rfl rfl rfl trivial ?_
                  | refine x_nilCheck rfl rfl rfl trivial ?_
                  | refine x_fieldAddr rfl rfl rfl rfl trivial ?_
                  | refine x_skip trivial rfl rfl rfl ?_
                  | refine x_indexAddr1 rfl rfl rfl (by assumption) (by omega) (by omega) rfl trivial ?_
                  | refine x_indexAddr rfl rfl rfl (by assumption) (by omega) (by omega) rfl trivial ?_
                  | refine x_nil ?_
                  | refine cw_seq ?_
                  | refine nw_seq ?_
                  | refine nw_block ?_
                  | refine cw_block ?_
                  | refine cw_skip ?_
                  | refine cw_region ?_
                  | refine cw_exit rfl ?_
                  | refine cw_true rfl ?_
                  | refine cw_false rfl ?_)
                refine x_load rfl rfl (hpmt (hcv)) rfl trivial ?_
                repeat (first
                  | refine x_move rfl rfl rfl trivial ?_
                  | refine x_assign rfl rfl rfl trivial ?_
                  | refine x_add rfl rfl rfl (wrap_i64 (by omega) (by omega)) rfl trivial ?_
                  | refine x_sub_ rfl rfl rfl (wrap_i64 (by omega) (by omega)) rfl trivial ?_
                  | refine x_sub_ rfl rfl rfl (wrap_u32 (by omega) (by omega)) rfl trivial ?_
                  | refine x_add rfl rfl rfl (wrap_u32 (by omega) (by omega)) rfl trivial ?_
                  | refine x_peqn rfl rfl rfl rfl trivial ?_
                  | refine x_pnen rfl rfl rfl rfl trivial ?_
                  | refine x_mul rfl rfl rfl (wrap_i64 (by omega) (by omega)) rfl trivial ?_
                  | refine x_ibin rfl rfl rfl rfl rfl trivial ?_
                  | refine x_neg_ rfl rfl (wrap_i64 (by omega) (by omega)) rfl trivial ?_
                  | refine x_len rfl rfl (by assumption) rfl trivial ?_
                  | refine x_pick_t rfl rfl rfl rfl trivial ?_
                  | refine x_pick_f rfl rfl rfl rfl trivial ?_
                  | refine x_not rfl rfl rfl trivial ?_
                  | refine x_beq rfl rfl rfl rfl trivial ?_
                  | refine x_bne rfl rfl rfl rfl trivial ?_
                  | refine x_extract rfl rfl rfl rfl trivial ?_
                  | refine x_nilCheck rfl rfl rfl trivial ?_
                  | refine x_fieldAddr rfl rfl rfl rfl trivial ?_
                  | refine x_skip trivial rfl rfl rfl ?_
                  | refine x_indexAddr1 rfl rfl rfl (by assumption) (by omega) (by omega) rfl trivial ?_
                  | refine x_indexAddr rfl rfl rfl (by assumption) (by omega) (by omega) rfl trivial ?_
                  | refine x_nil ?_
                  | refine cw_seq ?_
                  | refine nw_seq ?_
                  | refine nw_block ?_
                  | refine cw_block ?_
                  | refine cw_skip ?_
                  | refine cw_region ?_
                  | refine cw_exit rfl ?_
                  | refine cw_true rfl ?_
                  | refine cw_false rfl ?_)
                rw [ek]
                refine x_load rfl rfl (hpmt (hcz)) rfl trivial ?_
                repeat (first
                  | refine x_move rfl rfl rfl trivial ?_
                  | refine x_assign rfl rfl rfl trivial ?_
                  | refine x_add rfl rfl rfl (wrap_i64 (by omega) (by omega)) rfl trivial ?_
                  | refine x_sub_ rfl rfl rfl (wrap_i64 (by omega) (by omega)) rfl trivial ?_
                  | refine x_sub_ rfl rfl rfl (wrap_u32 (by omega) (by omega)) rfl trivial ?_
                  | refine x_add rfl rfl rfl (wrap_u32 (by omega) (by omega)) rfl trivial ?_
                  | refine x_peqn rfl rfl rfl rfl trivial ?_
                  | refine x_pnen rfl rfl rfl rfl trivial ?_
                  | refine x_mul rfl rfl rfl (wrap_i64 (by omega) (by omega)) rfl trivial ?_
                  | refine x_ibin rfl rfl rfl rfl rfl trivial ?_
                  | refine x_neg_ rfl rfl (wrap_i64 (by omega) (by omega)) rfl trivial ?_
                  | refine x_len rfl rfl (by assumption) rfl trivial ?_
                  | refine x_pick_t rfl rfl rfl rfl trivial ?_
                  | refine x_pick_f rfl rfl rfl rfl trivial ?_
                  | refine x_not rfl rfl rfl trivial ?_
                  | refine x_beq rfl rfl rfl rfl trivial ?_
                  | refine x_bne rfl rfl rfl rfl trivial ?_
                  | refine x_extract rfl rfl rfl rfl trivial ?_
                  | refine x_nilCheck rfl rfl rfl trivial ?_
                  | refine x_fieldAddr rfl rfl rfl rfl trivial ?_
                  | refine x_skip trivial rfl rfl rfl ?_
                  | refine x_indexAddr1 rfl rfl rfl (by assumption) (by omega) (by omega) rfl trivial ?_
                  | refine x_indexAddr rfl rfl rfl (by assumption) (by omega) (by omega) rfl trivial ?_
                  | refine x_nil ?_
                  | refine cw_seq ?_
                  | refine nw_seq ?_
                  | refine nw_block ?_
                  | refine cw_block ?_
                  | refine cw_skip ?_
                  | refine cw_region ?_
                  | refine cw_exit rfl ?_
                  | refine cw_true rfl ?_
                  | refine cw_false rfl ?_)
                refine x_false 129 rfl (by simp; omega) ?_
                repeat (first
                  | refine x_move rfl rfl rfl trivial ?_
                  | refine x_assign rfl rfl rfl trivial ?_
                  | refine x_add rfl rfl rfl (wrap_i64 (by omega) (by omega)) rfl trivial ?_
                  | refine x_sub_ rfl rfl rfl (wrap_i64 (by omega) (by omega)) rfl trivial ?_
                  | refine x_sub_ rfl rfl rfl (wrap_u32 (by omega) (by omega)) rfl trivial ?_
                  | refine x_add rfl rfl rfl (wrap_u32 (by omega) (by omega)) rfl trivial ?_
                  | refine x_peqn rfl rfl rfl rfl trivial ?_
                  | refine x_pnen rfl rfl rfl rfl trivial ?_
                  | refine x_mul rfl rfl rfl (wrap_i64 (by omega) (by omega)) rfl trivial ?_
                  | refine x_ibin rfl rfl rfl rfl rfl trivial ?_
                  | refine x_neg_ rfl rfl (wrap_i64 (by omega) (by omega)) rfl trivial ?_
                  | refine x_len rfl rfl (by assumption) rfl trivial ?_
                  | refine x_pick_t rfl rfl rfl rfl trivial ?_
                  | refine x_pick_f rfl rfl rfl rfl trivial ?_
                  | refine x_not rfl rfl rfl trivial ?_
                  | refine x_beq rfl rfl rfl rfl trivial ?_
                  | refine x_bne rfl rfl rfl rfl trivial ?_
                  | refine x_extract rfl rfl rfl rfl trivial ?_
                  | refine x_nilCheck rfl rfl rfl trivial ?_
                  | refine x_fieldAddr rfl rfl rfl rfl trivial ?_
                  | refine x_skip trivial rfl rfl rfl ?_
                  | refine x_indexAddr1 rfl rfl rfl (by assumption) (by omega) (by omega) rfl trivial ?_
                  | refine x_indexAddr rfl rfl rfl (by assumption) (by omega) (by omega) rfl trivial ?_
                  | refine x_nil ?_
                  | refine cw_seq ?_
                  | refine nw_seq ?_
                  | refine nw_block ?_
                  | refine cw_block ?_
                  | refine cw_skip ?_
                  | refine cw_region ?_
                  | refine cw_exit rfl ?_
                  | refine cw_true rfl ?_
                  | refine cw_false rfl ?_)
                refine x_load rfl rfl (hpmt (hcv)) rfl trivial ?_
                repeat (first
                  | refine x_move rfl rfl rfl trivial ?_
                  | refine x_assign rfl rfl rfl trivial ?_
                  | refine x_add rfl rfl rfl (wrap_i64 (by omega) (by omega)) rfl trivial ?_
                  | refine x_sub_ rfl rfl rfl (wrap_i64 (by omega) (by omega)) rfl trivial ?_
                  | refine x_sub_ rfl rfl rfl (wrap_u32 (by omega) (by omega)) rfl trivial ?_
                  | refine x_add rfl rfl rfl (wrap_u32 (by omega) (by omega)) rfl trivial ?_
                  | refine x_peqn rfl rfl rfl rfl trivial ?_
                  | refine x_pnen rfl rfl rfl rfl trivial ?_
                  | refine x_mul rfl rfl rfl (wrap_i64 (by omega) (by omega)) rfl trivial ?_
                  | refine x_ibin rfl rfl rfl rfl rfl trivial ?_
                  | refine x_neg_ rfl rfl (wrap_i64 (by omega) (by omega)) rfl trivial ?_
                  | refine x_len rfl rfl (by assumption) rfl trivial ?_
                  | refine x_pick_t rfl rfl rfl rfl trivial ?_
                  | refine x_pick_f rfl rfl rfl rfl trivial ?_
                  | refine x_not rfl rfl rfl trivial ?_
                  | refine x_beq rfl rfl rfl rfl trivial ?_
                  | refine x_bne rfl rfl rfl rfl trivial ?_
                  | refine x_extract rfl rfl rfl rfl trivial ?_
                  | refine x_nilCheck rfl rfl rfl trivial ?_
                  | refine x_fieldAddr rfl rfl rfl rfl trivial ?_
                  | refine x_skip trivial rfl rfl rfl ?_
                  | refine x_indexAddr1 rfl rfl rfl (by assumption) (by omega) (by omega) rfl trivial ?_
                  | refine x_indexAddr rfl rfl rfl (by assumption) (by omega) (by omega) rfl trivial ?_
                  | refine x_nil ?_
                  | refine cw_seq ?_
                  | refine nw_seq ?_
                  | refine nw_block ?_
                  | refine cw_block ?_
                  | refine cw_skip ?_
                  | refine cw_region ?_
                  | refine cw_exit rfl ?_
                  | refine cw_true rfl ?_
                  | refine cw_false rfl ?_)
                refine cw_cond rfl (fun h => absurd h (by simp; omega)) (fun _ => ?_)
                repeat (first
                  | refine x_move rfl rfl rfl trivial ?_
                  | refine x_assign rfl rfl rfl trivial ?_
                  | refine x_add rfl rfl rfl (wrap_i64 (by omega) (by omega)) rfl trivial ?_
                  | refine x_sub_ rfl rfl rfl (wrap_i64 (by omega) (by omega)) rfl trivial ?_
                  | refine x_sub_ rfl rfl rfl (wrap_u32 (by omega) (by omega)) rfl trivial ?_
                  | refine x_add rfl rfl rfl (wrap_u32 (by omega) (by omega)) rfl trivial ?_
                  | refine x_peqn rfl rfl rfl rfl trivial ?_
                  | refine x_pnen rfl rfl rfl rfl trivial ?_
                  | refine x_mul rfl rfl rfl (wrap_i64 (by omega) (by omega)) rfl trivial ?_
                  | refine x_ibin rfl rfl rfl rfl rfl trivial ?_
                  | refine x_neg_ rfl rfl (wrap_i64 (by omega) (by omega)) rfl trivial ?_
                  | refine x_len rfl rfl (by assumption) rfl trivial ?_
                  | refine x_pick_t rfl rfl rfl rfl trivial ?_
                  | refine x_pick_f rfl rfl rfl rfl trivial ?_
                  | refine x_not rfl rfl rfl trivial ?_
                  | refine x_beq rfl rfl rfl rfl trivial ?_
                  | refine x_bne rfl rfl rfl rfl trivial ?_
                  | refine x_extract rfl rfl rfl rfl trivial ?_
                  | refine x_nilCheck rfl rfl rfl trivial ?_
                  | refine x_fieldAddr rfl rfl rfl rfl trivial ?_
                  | refine x_skip trivial rfl rfl rfl ?_
                  | refine x_indexAddr1 rfl rfl rfl (by assumption) (by omega) (by omega) rfl trivial ?_
                  | refine x_indexAddr rfl rfl rfl (by assumption) (by omega) (by omega) rfl trivial ?_
                  | refine x_nil ?_
                  | refine cw_seq ?_
                  | refine nw_seq ?_
                  | refine nw_block ?_
                  | refine cw_block ?_
                  | refine cw_skip ?_
                  | refine cw_region ?_
                  | refine cw_exit rfl ?_
                  | refine cw_true rfl ?_
                  | refine cw_false rfl ?_)
                exact nw_round (k' + 1 + 1) (by repeat (first | exact True.intro | refine ⟨rfl, ?_⟩)) ⟨rfl, by omega⟩ (by omega)
              · repeat (first
                  | refine x_move rfl rfl rfl trivial ?_
                  | refine x_assign rfl rfl rfl trivial ?_
                  | refine x_add rfl rfl rfl (wrap_i64 (by omega) (by omega)) rfl trivial ?_
                  | refine x_sub_ rfl rfl rfl (wrap_i64 (by omega) (by omega)) rfl trivial ?_
                  | refine x_sub_ rfl rfl rfl (wrap_u32 (by omega) (by omega)) rfl trivial ?_
                  | refine x_add rfl rfl rfl (wrap_u32 (by omega) (by omega)) rfl trivial ?_
                  | refine x_peqn rfl rfl rfl rfl trivial ?_
                  | refine x_pnen rfl rfl rfl rfl trivial ?_
                  | refine x_mul rfl rfl rfl (wrap_i64 (by omega) (by omega)) rfl trivial ?_
                  | refine x_ibin rfl rfl rfl rfl rfl trivial ?_
                  | refine x_neg_ rfl rfl (wrap_i64 (by omega) (by omega)) rfl trivial ?_
                  | refine x_len rfl rfl (by assumption) rfl trivial ?_
                  | refine x_pick_t rfl rfl rfl rfl trivial ?_
                  | refine x_pick_f rfl rfl rfl rfl trivial ?_
                  | refine x_not rfl rfl rfl trivial ?_
                  | refine x_beq rfl rfl rfl rfl trivial ?_
                  | refine x_bne rfl rfl rfl rfl trivial ?_
                  | refine x_extract rfl rfl rfl rfl trivial ?_
                  | refine x_nilCheck rfl rfl rfl trivial ?_
                  | refine x_fieldAddr rfl rfl rfl rfl trivial ?_
                  | refine x_skip trivial rfl rfl rfl ?_
                  | refine x_indexAddr1 rfl rfl rfl (by assumption) (by omega) (by omega) rfl trivial ?_
                  | refine x_indexAddr rfl rfl rfl (by assumption) (by omega) (by omega) rfl trivial ?_
                  | refine x_nil ?_
                  | refine cw_seq ?_
                  | refine nw_seq ?_
                  | refine nw_block ?_
                  | refine cw_block ?_
                  | refine cw_skip ?_
                  | refine cw_region ?_
                  | refine cw_exit rfl ?_
                  | refine cw_true rfl ?_
                  | refine cw_false rfl ?_)
                refine x_load rfl rfl (hpmt (hcv)) rfl trivial ?_
                repeat (first
                  | refine x_move rfl rfl rfl trivial ?_
                  | refine x_assign rfl rfl rfl trivial ?_
                  | refine x_add rfl rfl rfl (wrap_i64 (by omega) (by omega)) rfl trivial ?_
                  | refine x_sub_ rfl rfl rfl (wrap_i64 (by omega) (by omega)) rfl trivial ?_
                  | refine x_sub_ rfl rfl rfl (wrap_u32 (by omega) (by omega)) rfl trivial ?_
                  | refine x_add rfl rfl rfl (wrap_u32 (by omega) (by omega)) rfl trivial ?_
                  | refine x_peqn rfl rfl rfl rfl trivial ?_
                  | refine x_pnen rfl rfl rfl rfl trivial ?_
                  | refine x_mul rfl rfl rfl (wrap_i64 (by omega) (by omega)) rfl trivial ?_
                  | refine x_ibin rfl rfl rfl rfl rfl trivial ?_
                  | refine x_neg_ rfl rfl (wrap_i64 (by omega) (by omega)) rfl trivial ?_
                  | refine x_len rfl rfl (by assumption) rfl trivial ?_
                  | refine x_pick_t rfl rfl rfl rfl trivial ?_
                  | refine x_pick_f rfl rfl rfl rfl trivial ?_
                  | refine x_not rfl rfl rfl trivial ?_
                  | refine x_beq rfl rfl rfl rfl trivial ?_
                  | refine x_bne rfl rfl rfl rfl trivial ?_
                  | refine x_extract rfl rfl rfl rfl trivial ?_
                  | refine x_nilCheck rfl rfl rfl trivial ?_
                  | refine x_fieldAddr rfl rfl rfl rfl trivial ?_
                  | refine x_skip trivial rfl rfl rfl ?_
                  | refine x_indexAddr1 rfl rfl rfl (by assumption) (by omega) (by omega) rfl trivial ?_
                  | refine x_indexAddr rfl rfl rfl (by assumption) (by omega) (by omega) rfl trivial ?_
                  | refine x_nil ?_
                  | refine cw_seq ?_
                  | refine nw_seq ?_
                  | refine nw_block ?_
                  | refine cw_block ?_
                  | refine cw_skip ?_
                  | refine cw_region ?_
                  | refine cw_exit rfl ?_
                  | refine cw_true rfl ?_
                  | refine cw_false rfl ?_)
                refine cw_cond rfl (fun h => absurd h (by simp; omega)) (fun _ => ?_)
                repeat (first
                  | refine x_move rfl rfl rfl trivial ?_
                  | refine x_assign rfl rfl rfl trivial ?_
                  | refine x_add rfl rfl rfl (wrap_i64 (by omega) (by omega)) rfl trivial ?_
                  | refine x_sub_ rfl rfl rfl (wrap_i64 (by omega) (by omega)) rfl trivial ?_
                  | refine x_sub_ rfl rfl rfl (wrap_u32 (by omega) (by omega)) rfl trivial ?_
                  | refine x_add rfl rfl rfl (wrap_u32 (by omega) (by omega)) rfl trivial ?_
                  | refine x_peqn rfl rfl rfl rfl trivial ?_
                  | refine x_pnen rfl rfl rfl rfl trivial ?_
                  | refine x_mul rfl rfl rfl (wrap_i64 (by omega) (by omega)) rfl trivial ?_
                  | refine x_ibin rfl rfl rfl rfl rfl trivial ?_
                  | refine x_neg_ rfl rfl (wrap_i64 (by omega) (by omega)) rfl trivial ?_
                  | refine x_len rfl rfl (by assumption) rfl trivial ?_
                  | refine x_pick_t rfl rfl rfl rfl trivial ?_
                  | refine x_pick_f rfl rfl rfl rfl trivial ?_
                  | refine x_not rfl rfl rfl trivial ?_
                  | refine x_beq rfl rfl rfl rfl trivial ?_
                  | refine x_bne rfl rfl rfl rfl trivial ?_
                  | refine x_extract rfl rfl rfl rfl trivial ?_
                  | refine x_nilCheck rfl rfl rfl trivial ?_
                  | refine x_fieldAddr rfl rfl rfl rfl trivial ?_
                  | refine x_skip trivial rfl rfl rfl ?_
                  | refine x_indexAddr1 rfl rfl rfl (by assumption) (by omega) (by omega) rfl trivial ?_
                  | refine x_indexAddr rfl rfl rfl (by assumption) (by omega) (by omega) rfl trivial ?_
                  | refine x_nil ?_
                  | refine cw_seq ?_
                  | refine nw_seq ?_
                  | refine nw_block ?_
                  | refine cw_block ?_
                  | refine cw_skip ?_
                  | refine cw_region ?_
                  | refine cw_exit rfl ?_
                  | refine cw_true rfl ?_
                  | refine cw_false rfl ?_)
                exact nw_round (k + 1) (by repeat (first | exact True.intro | refine ⟨rfl, ?_⟩)) ⟨rfl, by omega⟩ (by omega)
            · repeat (first
                | refine x_move rfl rfl rfl trivial ?_
                | refine x_assign rfl rfl rfl trivial ?_
                | refine x_add rfl rfl rfl (wrap_i64 (by omega) (by omega)) rfl trivial ?_
                | refine x_sub_ rfl rfl rfl (wrap_i64 (by omega) (by omega)) rfl trivial ?_
                | refine x_sub_ rfl rfl rfl (wrap_u32 (by omega) (by omega)) rfl trivial ?_
                | refine x_add rfl rfl rfl (wrap_u32 (by omega) (by omega)) rfl trivial ?_
                | refine x_peqn rfl rfl rfl rfl trivial ?_
                | refine x_pnen rfl rfl rfl rfl trivial ?_
                | refine x_mul rfl rfl rfl (wrap_i64 (by omega) (by omega)) rfl trivial ?_
                | refine x_ibin rfl rfl rfl rfl rfl trivial ?_
                | refine x_neg_ rfl rfl (wrap_i64 (by omega) (by omega)) rfl trivial ?_
                | refine x_len rfl rfl (by assumption) rfl trivial ?_
                | refine x_pick_t rfl rfl rfl rfl trivial ?_
                | refine x_pick_f rfl rfl rfl rfl trivial ?_
                | refine x_not rfl rfl rfl trivial ?_
                | refine x_beq rfl rfl rfl rfl trivial ?_
                | refine x_bne rfl rfl rfl rfl trivial ?_
                | refine x_extract rfl rfl rfl rfl trivial ?_
                | refine x_nilCheck rfl rfl rfl trivial ?_
                | refine x_fieldAddr rfl rfl rfl rfl trivial ?_
                | refine x_skip trivial rfl rfl rfl ?_
                | refine x_indexAddr1 rfl rfl rfl (by assumption) (by omega) (by omega) rfl trivial ?_
                | refine x_indexAddr rfl rfl rfl (by assumption) (by omega) (by omega) rfl trivial ?_
                | refine x_nil ?_
                | refine cw_seq ?_
                | refine nw_seq ?_
                | refine nw_block ?_
                | refine cw_block ?_
                | refine cw_skip ?_
                | refine cw_region ?_
                | refine cw_exit rfl ?_
                | refine cw_true rfl ?_
                | refine cw_false rfl ?_)
              exact nw_round (i + 1, a) (by repeat (first | exact True.intro | refine ⟨rfl, ?_⟩)) ⟨by show i + 1 ≤ _; omega, hA5, hwa, ham, by show a.cs.length ≤ i + 1; omega, by show a.back.length ≤ i + 1; omega⟩ (by show turns.length - (i + 1) < turns.length - i; omega)
          · have e2 : (takeA a [IntKind.u64.wrap (n : Int)]).2.1 = 0 := by
              unfold takeA
              rw [if_neg (by simp), if_neg hfull]
              cases a.back.getLast? <;> rfl
            have hl5 : liveA (takeA a [IntKind.u64.wrap (n : Int)]).2.2 = liveA a + 1 := by
              unfold takeA
              rw [if_neg (by simp), if_neg hfull]
              cases hb : a.back.getLast? with
              | none =>
                have hb0 : a.back = [] := List.getLast?_eq_none_iff.1 hb
                simp [liveA, hb0]
              | some g =>
                have : a.back ≠ [] := by intro e; rw [e] at hb; cases hb
                have := List.length_pos_iff.2 this
                simp [liveA]
                omega
            rw [e2]
            repeat (first
              | refine x_move rfl rfl rfl trivial ?_
              | refine x_assign rfl rfl rfl trivial ?_
              | refine x_add rfl rfl rfl (wrap_i64 (by omega) (by omega)) rfl trivial ?_
              | refine x_sub_ rfl rfl rfl (wrap_i64 (by omega) (by omega)) rfl trivial ?_
              | refine x_sub_ rfl rfl rfl (wrap_u32 (by omega) (by omega)) rfl trivial ?_
              | refine x_add rfl rfl rfl (wrap_u32 (by omega) (by omega)) rfl trivial ?_
              | refine x_peqn rfl rfl rfl rfl trivial ?_
              | refine x_pnen rfl rfl rfl rfl trivial ?_
              | refine x_mul rfl rfl rfl (wrap_i64 (by omega) (by omega)) rfl trivial ?_
              | refine x_ibin rfl rfl rfl rfl rfl trivial ?_
              | refine x_neg_ rfl rfl (wrap_i64 (by omega) (by omega)) rfl trivial ?_
              | refine x_len rfl rfl (by assumption) rfl trivial ?_
              | refine x_pick_t rfl rfl rfl rfl trivial ?_
              | refine x_pick_f rfl rfl rfl rfl trivial ?_
              | refine x_not rfl rfl rfl trivial ?_
              | refine x_beq rfl rfl rfl rfl trivial ?_
              | refine x_bne rfl rfl rfl rfl trivial ?_
              | refine x_extract rfl rfl rfl rfl trivial ?_
              | refine x_nilCheck rfl rfl rfl trivial ?_
              | refine x_fieldAddr rfl rfl rfl rfl trivial ?_
              | refine x_skip trivial rfl rfl rfl ?_
              | refine x_indexAddr1 rfl rfl rfl (by assumption) (by omega) (by omega) rfl trivial ?_
              | refine x_indexAddr rfl rfl rfl (by assumption) (by omega) (by omega) rfl trivial ?_
              | refine x_nil ?_
              | refine cw_seq ?_
              | refine nw_seq ?_
              | refine nw_block ?_
              | refine cw_block ?_
              | refine cw_skip ?_
              | refine cw_region ?_
              | refine cw_exit rfl ?_
              | refine cw_true rfl ?_
              | refine cw_false rfl ?_)
            refine x_false 89 rfl (by simp; omega) ?_
            repeat (first
              | refine x_move rfl rfl rfl trivial ?_
              | refine x_assign rfl rfl rfl trivial ?_
              | refine x_add rfl rfl rfl (wrap_i64 (by omega) (by omega)) rfl trivial ?_
              | refine x_sub_ rfl rfl rfl (wrap_i64 (by omega) (by omega)) rfl trivial ?_
              | refine x_sub_ rfl rfl rfl (wrap_u32 (by omega) (by omega)) rfl trivial ?_
              | refine x_add rfl rfl rfl (wrap_u32 (by omega) (by omega)) rfl trivial ?_
              | refine x_peqn rfl rfl rfl rfl trivial ?_
              | refine x_pnen rfl rfl rfl rfl trivial ?_
              | refine x_mul rfl rfl rfl (wrap_i64 (by omega) (by omega)) rfl trivial ?_
              | refine x_ibin rfl rfl rfl rfl rfl trivial ?_
              | refine x_neg_ rfl rfl (wrap_i64 (by omega) (by omega)) rfl trivial ?_
              | refine x_len rfl rfl (by assumption) rfl trivial ?_
              | refine x_pick_t rfl rfl rfl rfl trivial ?_
              | refine x_pick_f rfl rfl rfl rfl trivial ?_
              | refine x_not rfl rfl rfl trivial ?_
              | refine x_beq rfl rfl rfl rfl trivial ?_
              | refine x_bne rfl rfl rfl rfl trivial ?_
              | refine x_extract rfl rfl rfl rfl trivial ?_
              | refine x_nilCheck rfl rfl rfl trivial ?_
              | refine x_fieldAddr rfl rfl rfl rfl trivial ?_
              | refine x_skip trivial rfl rfl rfl ?_
              | refine x_indexAddr1 rfl rfl rfl (by assumption) (by omega) (by omega) rfl trivial ?_
              | refine x_indexAddr rfl rfl rfl (by assumption) (by omega) (by omega) rfl trivial ?_
              | refine x_nil ?_
              | refine cw_seq ?_
              | refine nw_seq ?_
              | refine nw_block ?_
              | refine cw_block ?_
              | refine cw_skip ?_
              | refine cw_region ?_
              | refine cw_exit rfl ?_
              | refine cw_true rfl ?_
              | refine cw_false rfl ?_)
            refine cw_loop (fun k : Nat => [(0, va), (1, .int .i64 m), (5, ptr b 0), (6, .int .i64 (liveA a)), (7, .int .i64 i), (9, vh), (10, .int .u32 ((takeA a [IntKind.u64.wrap (n : Int)]).1)), (11, .int .i64 0), (12, .int .i64 k)]) (fun k H' => H5 = H' ∧ k ≤ (handlesA a).length) (fun k => (handlesA a).length - k) 0 (by repeat (first | exact True.intro | refine ⟨rfl, ?_⟩)) ⟨rfl, Nat.zero_le _⟩ ?_
            rintro k _ ⟨rfl, hk⟩
            repeat (first
              | refine x_move rfl rfl rfl trivial ?_
              | refine x_assign rfl rfl rfl trivial ?_
              | refine x_add rfl rfl rfl (wrap_i64 (by omega) (by omega)) rfl trivial ?_
              | refine x_sub_ rfl rfl rfl (wrap_i64 (by omega) (by omega)) rfl trivial ?_
              | refine x_sub_ rfl rfl rfl (wrap_u32 (by omega) (by omega)) rfl trivial ?_
              | refine x_add rfl rfl rfl (wrap_u32 (by omega) (by omega)) rfl trivial ?_
              | refine x_peqn rfl rfl rfl rfl trivial ?_
              | refine x_pnen rfl rfl rfl rfl trivial ?_
              | refine x_mul rfl rfl rfl (wrap_i64 (by omega) (by omega)) rfl trivial ?_
              | refine x_ibin rfl rfl rfl rfl rfl trivial ?_
              | refine x_neg_ rfl rfl (wrap_i64 (by omega) (by omega)) rfl trivial ?_
              | refine x_len rfl rfl (by assumption) rfl trivial ?_
              | refine x_pick_t rfl rfl rfl rfl trivial ?_
              | refine x_pick_f rfl rfl rfl rfl trivial ?_
              | refine x_not rfl rfl rfl trivial ?_
              | refine x_beq rfl rfl rfl rfl trivial ?_
              | refine x_bne rfl rfl rfl rfl trivial ?_
              | refine x_extract rfl rfl rfl rfl trivial ?_
              | refine x_nilCheck rfl rfl rfl trivial ?_
              | refine x_fieldAddr rfl rfl rfl rfl trivial ?_
              | refine x_skip trivial rfl rfl rfl ?_
              | refine x_indexAddr1 rfl rfl rfl (by assumption) (by omega) (by omega) rfl trivial ?_
              | refine x_indexAddr rfl rfl rfl (by assumption) (by omega) (by omega) rfl trivial ?_
              | refine x_nil ?_
              | refine cw_seq ?_
              | refine nw_seq ?_
              | refine nw_block ?_
              | refine cw_block ?_
              | refine cw_skip ?_
              | refine cw_region ?_
              | refine cw_exit rfl ?_
              | refine cw_true rfl ?_
              | refine cw_false rfl ?_)
            refine cw_cond rfl (fun hk2' => ?_) (fun hk2' => ?_) <;> simp at hk2'
            · obtain ⟨x, hx⟩ : ∃ x, (handlesA a)[k]? = some x := ⟨_, List.getElem?_eq_getElem hk2'⟩
              obtain ⟨y, hy, hcv⟩ := hV5.rd.cel1 encU_len hx
              rw [hy] at hcv
              obtain ⟨_, hx1, hx2⟩ := handles_has (List.mem_of_getElem? hx)
              have hne := take_new hwa (ws := [IntKind.u64.wrap (n : Int)]) (by simp) (List.mem_of_getElem? hx)
              repeat (first
                | refine x_move rfl rfl rfl trivial ?_
                | refine x_assign rfl rfl rfl trivial ?_
                | refine x_add rfl rfl rfl (wrap_i64 (by omega) (by omega)) rfl trivial ?_
                | refine x_sub_ rfl rfl rfl (wrap_i64 (by omega) (by omega)) rfl trivial ?_
                | refine x_sub_ rfl rfl rfl (wrap_u32 (by omega) (by omega)) rfl trivial ?_
                | refine x_add rfl rfl rfl (wrap_u32 (by omega) (by omega)) rfl trivial ?_
                | refine x_peqn rfl rfl rfl rfl trivial ?_
                | refine x_pnen rfl rfl rfl rfl trivial ?_
                | refine x_mul rfl rfl rfl (wrap_i64 (by omega) (by omega)) rfl trivial ?_
                | refine x_ibin rfl rfl rfl rfl rfl trivial ?_
                | refine x_neg_ rfl rfl (wrap_i64 (by omega) (by omega)) rfl trivial ?_
                | refine x_len rfl rfl (by assumption) rfl trivial ?_
                | refine x_pick_t rfl rfl rfl rfl trivial ?_
                | refine x_pick_f rfl rfl rfl rfl trivial ?_
                | refine x_not rfl rfl rfl trivial ?_
                | refine x_beq rfl rfl rfl rfl trivial ?_
                | refine x_bne rfl rfl rfl rfl trivial ?_
                | refine x_extract rfl rfl rfl rfl trivial ?_
                | refine x_nilCheck rfl rfl rfl trivial ?_
                | refine x_fieldAddr rfl rfl rfl rfl trivial ?_
                | refine x_skip trivial rfl rfl rfl ?_
                | refine x_indexAddr1 rfl rfl rfl (by assumption) (by omega) (by omega) rfl trivial ?_
                | refine x_indexAddr rfl rfl rfl (by assumption) (by omega) (by omega) rfl trivial ?_
                | refine x_nil ?_
                | refine cw_seq ?_
                | refine nw_seq ?_
                | refine nw_block ?_
                | refine cw_block ?_
                | refine cw_skip ?_
                | refine cw_region ?_
                | refine cw_exit rfl ?_
                | refine cw_true rfl ?_
                | refine cw_false rfl ?_)
              refine cw_quiet mixed (by kernel_rfl) ?_
              repeat (first
                | refine x_move rfl rfl rfl trivial ?_
                | refine x_assign rfl rfl rfl trivial ?_
                | refine x_add rfl rfl rfl (wrap_i64 (by omega) (by omega)) rfl trivial ?_
                | refine x_sub_ rfl rfl rfl (wrap_i64 (by omega) (by omega)) rfl trivial ?_
                | refine x_sub_ rfl rfl rfl (wrap_u32 (by omega) (by omega)) rfl trivial ?_
                | refine x_add rfl rfl rfl (wrap_u32 (by omega) (by omega)) rfl trivial ?_
                | refine x_peqn rfl rfl rfl rfl trivial ?_
                | refine x_pnen rfl rfl rfl rfl trivial ?_
                | refine x_mul rfl rfl rfl (wrap_i64 (by omega) (by omega)) rfl trivial ?_
                | refine x_ibin rfl rfl rfl rfl rfl trivial ?_
                | refine x_neg_ rfl rfl (wrap_i64 (by omega) (by omega)) rfl trivial ?_
                | refine x_len rfl rfl (by assumption) rfl trivial ?_
                | refine x_pick_t rfl rfl rfl rfl trivial ?_
                | refine x_pick_f rfl rfl rfl rfl trivial ?_
                | refine x_not rfl rfl rfl trivial ?_
                | refine x_beq rfl rfl rfl rfl trivial ?_
                | refine x_bne rfl rfl rfl rfl trivial ?_
                | refine x_extract rfl rfl rfl rfl trivial ?_
                | refine x_nilCheck rfl rfl rfl trivial ?_
                | refine x_fieldAddr rfl rfl rfl rfl trivial ?_
                | refine x_skip trivial rfl rfl rfl ?_
                | refine x_indexAddr1 rfl rfl rfl (by assumption) (by omega) (by omega) rfl trivial ?_
                | refine x_indexAddr rfl rfl rfl (by assumption) (by omega) (by omega) rfl trivial ?_
                | refine x_nil ?_
                | refine cw_seq ?_
                | refine nw_seq ?_
                | refine nw_block ?_
                | refine cw_block ?_
                | refine cw_skip ?_
                | refine cw_region ?_
                | refine cw_exit rfl ?_
                | refine cw_true rfl ?_
                | refine cw_false rfl ?_)
              refine x_load rfl rfl (hpmt (hcv)) rfl trivial ?_
              repeat (first
                | refine x_move rfl rfl rfl trivial ?_
                | refine x_assign rfl rfl rfl trivial ?_
                | refine x_add rfl rfl rfl (wrap_i64 (by omega) (by omega)) rfl trivial ?_
                | refine x_sub_ rfl rfl rfl (wrap_i64 (by omega) (by omega)) rfl trivial ?_
                | refine x_sub_ rfl rfl rfl (wrap_u32 (by omega) (by omega)) rfl trivial ?_
                | refine x_add rfl rfl rfl (wrap_u32 (by omega) (by omega)) rfl trivial ?_
                | refine x_peqn rfl rfl rfl rfl trivial ?_
                | refine x_pnen rfl rfl rfl rfl trivial ?_
                | refine x_mul rfl rfl rfl (wrap_i64 (by omega) (by omega)) rfl trivial ?_
                | refine x_ibin rfl rfl rfl rfl rfl trivial ?_
                | refine x_neg_ rfl rfl (wrap_i64 (by omega) (by omega)) rfl trivial ?_
                | refine x_len rfl rfl (by assumption) rfl trivial ?_
                | refine x_pick_t rfl rfl rfl rfl trivial ?_
                | refine x_pick_f rfl rfl rfl rfl trivial ?_
                | refine x_not rfl rfl rfl trivial ?_
                | refine x_beq rfl rfl rfl rfl trivial ?_
                | refine x_bne rfl rfl rfl rfl trivial ?_
                | refine x_extract rfl rfl rfl rfl trivial ?_
                | refine x_nilCheck rfl rfl rfl trivial ?_
                | refine x_fieldAddr rfl rfl rfl rfl trivial ?_
                | refine x_skip trivial rfl rfl rfl ?_
                | refine x_indexAddr1 rfl rfl rfl (by assumption) (by omega) (by omega) rfl trivial ?_
                | refine x_indexAddr rfl rfl rfl (by assumption) (by omega) (by omega) rfl trivial ?_
                | refine x_nil ?_
                | refine cw_seq ?_
                | refine nw_seq ?_
                | refine nw_block ?_
                | refine cw_block ?_
                | refine cw_skip ?_
                | refine cw_region ?_
                | refine cw_exit rfl ?_
                | refine cw_true rfl ?_
                | refine cw_false rfl ?_)
              refine x_false 113 rfl (by simp; omega) ?_
              repeat (first
                | refine x_move rfl rfl rfl trivial ?_
                | refine x_assign rfl rfl rfl trivial ?_
                | refine x_add rfl rfl rfl (wrap_i64 (by omega) (by omega)) rfl trivial ?_
                | refine x_sub_ rfl rfl rfl (wrap_i64 (by omega) (by omega)) rfl trivial ?_
                | refine x_sub_ rfl rfl rfl (wrap_u32 (by omega) (by omega)) rfl trivial ?_
                | refine x_add rfl rfl rfl (wrap_u32 (by omega) (by omega)) rfl trivial ?_
                | refine x_peqn rfl rfl rfl rfl trivial ?_
                | refine x_pnen rfl rfl rfl rfl trivial ?_
                | refine x_mul rfl rfl rfl (wrap_i64 (by omega) (by omega)) rfl trivial ?_
                | refine x_ibin rfl rfl rfl rfl rfl trivial ?_
                | refine x_neg_ rfl rfl (wrap_i64 (by omega) (by omega)) rfl trivial ?_
                | refine x_len rfl rfl (by assumption) rfl trivial ?_
                | refine x_pick_t rfl rfl rfl rfl trivial ?_
                | refine x_pick_f rfl rfl rfl rfl trivial ?_
                | refine x_not rfl rfl rfl trivial ?_
                | refine x_beq rfl rfl rfl rfl trivial ?_
                | refine x_bne rfl rfl rfl rfl trivial ?_
                | refine x_extract rfl rfl rfl rfl trivial ?_
                | refine x_nilCheck rfl rfl rfl trivial ?_
                | refine x_fieldAddr rfl rfl rfl rfl trivial ?_
                | refine x_skip trivial rfl rfl rfl ?_
                | refine x_indexAddr1 rfl rfl rfl (by assumption) (by omega) (by omega) rfl trivial ?_
                | refine x_indexAddr rfl rfl rfl (by assumption) (by omega) (by omega) rfl trivial ?_
                | refine x_nil ?_
                | refine cw_seq ?_
                | refine nw_seq ?_
                | refine nw_block ?_
                | refine cw_block ?_
                | refine cw_skip ?_
                | refine cw_region ?_
                | refine cw_exit rfl ?_
                | refine cw_true rfl ?_
                | refine cw_false rfl ?_)
              refine x_split 116 rfl (fun hkp => ?_) (fun hkp => ?_) <;> (try simp at hkp)
              · obtain ⟨k', rfl⟩ : ∃ k', k = k' + 1 := ⟨k - 1, by omega⟩
                have ek : ((k' + 1 : Nat) : Int) - 1 = (k' : Int) := by omega
                obtain ⟨z, hz⟩ : ∃ z, (handlesA a)[k']? = some z := ⟨_, List.getElem?_eq_getElem (by omega)⟩
                obtain ⟨z', hz', hcz⟩ := hV5.rd.cel1 encU_len hz
                rw [hz'] at hcz
                have hrise := handles_rise hz hx
                repeat (first
                  | refine x_move rfl rfl rfl trivial ?_
                  | refine x_assign rfl rfl rfl trivial ?_
                  | refine x_add rfl rfl rfl (wrap_i64 (by omega) (by omega)) rfl trivial ?_
                  | refine x_sub_ rfl rfl rfl (wrap_i64 (by omega) (by omega)) rfl trivial ?_
                  | refine x_sub_ rfl rfl rfl (wrap_u32 (by omega) (by omega)) rfl trivial ?_
                  | refine x_add rfl rfl rfl (wrap_u32 (by omega) (by omega)) rfl trivial ?_
                  | refine x_peqn rfl rfl rfl rfl trivial ?_
                  | refine x_pnen rfl rfl rfl rfl trivial ?_
                  | refine x_mul rfl rfl rfl (wrap_i64 (by omega) (by omega)) rfl trivial ?_
                  | refine x_ibin rfl rfl rfl rfl rfl trivial ?_
                  | refine x_neg_ rfl rfl (wrap_i64 (by omega) (by omega)) rfl trivial ?_
                  | refine x_len rfl rfl (by assumption) rfl trivial ?_
                  | refine x_pick_t rfl rfl rfl rfl trivial ?_
                  | refine x_pick_f rfl rfl rfl rfl trivial ?_
                  | refine x_not rfl rfl rfl trivial ?_
                  | refine x_beq rfl rfl rfl rfl trivial ?_
                  | refine x_bne rfl rfl rfl rfl trivial ?_
                  | refine x_extract rfl rfl rfl rfl trivial ?_
                  | refine x_nilCheck rfl rfl rfl trivial ?_
                  | refine x_fieldAddr rfl rfl rfl rfl trivial ?_
                  | refine x_skip trivial rfl rfl rfl ?_
                  | refine x_indexAddr1 rfl rfl rfl (by assumption) (by omega) (by omega) rfl trivial ?_
                  | refine x_indexAddr rfl rfl rfl (by assumption) (by omega) (by omega) rfl trivial ?_
                  | refine x_nil ?_
                  | refine cw_seq ?_
                  | refine nw_seq ?_
                  | refine nw_block ?_
                  | refine cw_block ?_
                  | refine cw_skip ?_
                  | refine cw_region ?_
                  | refine cw_exit rfl ?_
                  | refine cw_true rfl ?_
                  | refine cw_false rfl ?_)
                refine x_load rfl rfl (hpmt (hcv)) rfl trivial ?_
                repeat (first
                  | refine x_move rfl rfl rfl trivial ?_
                  | refine x_assign rfl rfl rfl trivial ?_
                  | refine x_add rfl rfl rfl (wrap_i64 (by omega) (by omega)) rfl trivial ?_
                  | refine x_sub_ rfl rfl rfl (wrap_i64 (by omega) (by omega)) rfl trivial ?_
                  | refine x_sub_ rfl rfl rfl (wrap_u32 (by omega) (by omega)) rfl trivial ?_
                  | refine x_add rfl rfl rfl (wrap_u32 (by omega) (by omega)) rfl trivial ?_
                  | refine x_peqn rfl rfl rfl rfl trivial ?_
                  | refine x_pnen rfl rfl rfl rfl trivial ?_
                  | refine x_mul rfl rfl rfl (wrap_i64 (by omega) (by omega)) rfl trivial ?_
                  | refine x_ibin rfl rfl rfl rfl rfl trivial ?_
                  | refine x_neg_ rfl rfl (wrap_i64 (by omega) (by omega)) rfl trivial ?_
                  | refine x_len rfl rfl (by assumption) rfl trivial ?_
                  | refine x_pick_t rfl rfl rfl rfl trivial ?_
                  | refine x_pick_f rfl rfl rfl rfl trivial ?_
                  | refine x_not rfl rfl rfl trivial ?_
                  | refine x_beq rfl rfl rfl rfl trivial ?_
                  | refine x_bne rfl rfl rfl rfl trivial ?_
                  | refine x_extract rfl rfl rfl rfl trivial ?_
                  | refine x_nilCheck rfl rfl rfl trivial ?_
                  | refine x_fieldAddr rfl rfl rfl rfl trivial ?_
                  | refine x_skip trivial rfl rfl rfl ?_
                  | refine x_indexAddr1 rfl rfl rfl (by assumption) (by omega) (by omega) rfl trivial ?_
                  | refine x_indexAddr rfl rfl rfl (by assumption) (by omega) (by omega) rfl trivial ?_
                  | refine x_nil ?_
                  | refine cw_seq ?_
                  | refine nw_seq ?_
                  | refine nw_block ?_
                  | refine cw_block ?_
                  | refine cw_skip ?_
                  | refine cw_region ?_
                  | refine cw_exit rfl ?_
                  | refine cw_true rfl ?_
                  | refine cw_false rfl ?_)
                rw [ek]
                refine x_load rfl rfl (hpmt (hcz)) rfl trivial ?_
                repeat (first
                  | refine x_move rfl rfl rfl trivial ?_
                  | refine x_assign rfl rfl rfl trivial ?_
                  | refine x_add rfl rfl rfl (wrap_i64 (by omega) (by omega)) rfl trivial ?_
                  | refine x_sub_ rfl rfl rfl (wrap_i64 (by omega) (by omega)) rfl trivial ?_
                  | refine x_sub_ rfl rfl rfl (wrap_u32 (by omega) (by omega)) rfl trivial ?_
                  | refine x_add rfl rfl rfl (wrap_u32 (by omega) (by omega)) rfl trivial ?_
                  | refine x_peqn rfl rfl rfl rfl trivial ?_
                  | refine x_pnen rfl rfl rfl rfl trivial ?_
                  | refine x_mul rfl rfl rfl (wrap_i64 (by omega) (by omega)) rfl trivial ?_
                  | refine x_ibin rfl rfl rfl rfl rfl trivial ?_
                  | refine x_neg_ rfl rfl (wrap_i64 (by omega) (by omega)) rfl trivial ?_
                  | refine x_len rfl rfl (by assumption) rfl trivial ?_
                  | refine x_pick_t rfl rfl rfl rfl trivial ?_
                  | refine x_pick_f rfl rfl rfl rfl trivial ?_
                  | refine x_not rfl rfl rfl trivial ?_
                  | refine x_beq rfl rfl rfl rfl trivial ?_
                  | refine x_bne rfl rfl rfl rfl trivial ?_
                  | refine x_extract rfl rfl rfl rfl trivial ?_
                  | refine x_nilCheck rfl rfl rfl trivial ?_
                  | refine x_fieldAddr rfl rfl rfl rfl trivial ?_
                  | refine x_skip trivial rfl rfl rfl ?_
                  | refine x_indexAddr1 rfl rfl rfl (by assumption) (by omega) (by omega) rfl trivial ?_
                  | refine x_indexAddr rfl rfl rfl (by assumption) (by omega) (by omega) rfl trivial ?_
                  | refine x_nil ?_
                  | refine cw_seq ?_
                  | refine nw_seq ?_
                  | refine nw_block ?_
                  | refine cw_block ?_
                  | refine cw_skip ?_
                  | refine cw_region ?_
                  | refine cw_exit rfl ?_
                  | refine cw_true rfl ?_
                  | refine cw_false rfl ?_)
                refine x_false 129 rfl (by simp; omega) ?_
                repeat (first
                  | refine x_move rfl rfl rfl trivial ?_
                  | refine x_assign rfl rfl rfl trivial ?_
                  | refine x_add rfl rfl rfl (wrap_i64 (by omega) (by omega)) rfl trivial ?_
                  | refine x_sub_ rfl rfl rfl (wrap_i64 (by omega) (by omega)) rfl trivial ?_
                  | refine x_sub_ rfl rfl rfl (wrap_u32 (by omega) (by omega)) rfl trivial ?_
                  | refine x_add rfl rfl rfl (wrap_u32 (by omega) (by omega)) rfl trivial ?_
                  | refine x_peqn rfl rfl rfl rfl trivial ?_
                  | refine x_pnen rfl rfl rfl rfl trivial ?_
                  | refine x_mul rfl rfl rfl (wrap_i64 (by omega) (by omega)) rfl trivial ?_
                  | refine x_ibin rfl rfl rfl rfl rfl trivial ?_
                  | refine x_neg_ rfl rfl (wrap_i64 (by omega) (by omega)) rfl trivial ?_
                  | refine x_len rfl rfl (by assumption) rfl trivial ?_
                  | refine x_pick_t rfl rfl rfl rfl trivial ?_
                  | refine x_pick_f rfl rfl rfl rfl trivial ?_
                  | refine x_not rfl rfl rfl trivial ?_
                  | refine x_beq rfl rfl rfl rfl trivial ?_
                  | refine x_bne rfl rfl rfl rfl trivial ?_
                  | refine x_extract rfl rfl rfl rfl trivial ?_
                  | refine x_nilCheck rfl rfl rfl trivial ?_
                  | refine x_fieldAddr rfl rfl rfl rfl trivial ?_
                  | refine x_skip trivial rfl rfl rfl ?_
                  | refine x_indexAddr1 rfl rfl rfl (by assumption) (by omega) (by omega) rfl trivial ?_
                  | refine x_indexAddr rfl rfl rfl (by assumption) (by omega) (by omega) rfl trivial ?_
                  | refine x_nil ?_
                  | refine cw_seq ?_
                  | refine nw_seq ?_
                  | refine nw_block ?_
                  | refine cw_block ?_
                  | refine cw_skip ?_
                  | refine cw_region ?_
                  | refine cw_exit rfl ?_
                  | refine cw_true rfl ?_
                  | refine cw_false rfl ?_)
                refine x_load rfl rfl (hpmt (hcv)) rfl trivial ?_
                repeat (first
                  | refine x_move rfl rfl rfl trivial ?_
                  | refine x_assign rfl rfl rfl trivial ?_
                  | refine x_add rfl rfl rfl (wrap_i64 (by omega) (by omega)) rfl trivial ?_
                  | refine x_sub_ rfl rfl rfl (wrap_i64 (by omega) (by omega)) rfl trivial ?_
                  | refine x_sub_ rfl rfl rfl (wrap_u32 (by omega) (by omega)) rfl trivial ?_
                  | refine x_add rfl rfl rfl (wrap_u32 (by omega) (by omega)) rfl trivial ?_
                  | refine x_peqn rfl rfl rfl rfl trivial ?_
                  | refine x_pnen rfl rfl rfl rfl trivial ?_
                  | refine x_mul rfl rfl rfl (wrap_i64 (by omega) (by omega)) rfl trivial ?_
                  | refine x_ibin rfl rfl rfl rfl rfl trivial ?_
                  | refine x_neg_ rfl rfl (wrap_i64 (by omega) (by omega)) rfl trivial ?_
                  | refine x_len rfl rfl (by assumption) rfl trivial ?_
                  | refine x_pick_t rfl rfl rfl rfl trivial ?_
                  | refine x_pick_f rfl rfl rfl rfl trivial ?_
                  | refine x_not rfl rfl rfl trivial ?_
                  | refine x_beq rfl rfl rfl rfl trivial ?_
                  | refine x_bne rfl rfl rfl rfl trivial ?_
                  | refine x_extract rfl rfl rfl rfl trivial ?_
                  | refine x_nilCheck rfl rfl rfl trivial ?_
                  | refine x_fieldAddr rfl rfl rfl rfl trivial ?_
                  | refine x_skip trivial rfl rfl rfl ?_
                  | refine x_indexAddr1 rfl rfl rfl (by assumption) (by omega) (by omega) rfl trivial ?_
                  | refine x_indexAddr rfl rfl rfl (by assumption) (by omega) (by omega) rfl trivial ?_
                  | refine x_nil ?_
                  | refine cw_seq ?_
                  | refine nw_seq ?_
                  | refine nw_block ?_
                  | refine cw_block ?_
                  | refine cw_skip ?_
                  | refine cw_region ?_
                  | refine cw_exit rfl ?_
                  | refine cw_true rfl ?_
                  | refine cw_false rfl ?_)
                refine cw_cond rfl (fun h => absurd h (by simp; omega)) (fun _ => ?_)
                repeat (first
                  | refine x_move rfl rfl rfl trivial ?_
                  | refine x_assign rfl rfl rfl trivial ?_
                  | refine x_add rfl rfl rfl (wrap_i64 (by omega) (by omega)) rfl trivial ?_
                  | refine x_sub_ rfl rfl rfl (wrap_i64 (by omega) (by omega)) rfl trivial ?_
                  | refine x_sub_ rfl rfl rfl (wrap_u32 (by omega) (by omega)) rfl trivial ?_
                  | refine x_add rfl rfl rfl (wrap_u32 (by omega) (by omega)) rfl trivial ?_
                  | refine x_peqn rfl rfl rfl rfl trivial ?_
                  | refine x_pnen rfl rfl rfl rfl trivial ?_
                  | refine x_mul rfl rfl rfl (wrap_i64 (by omega) (by omega)) rfl trivial ?_
                  | refine x_ibin rfl rfl rfl rfl rfl trivial ?_
                  | refine x_neg_ rfl rfl (wrap_i64 (by omega) (by omega)) rfl trivial ?_
                  | refine x_len rfl rfl (by assumption) rfl trivial ?_
                  | refine x_pick_t rfl rfl rfl rfl trivial ?_
                  | refine x_pick_f rfl rfl rfl rfl trivial ?_
                  | refine x_not rfl rfl rfl trivial ?_
                  | refine x_beq rfl rfl rfl rfl trivial ?_
                  | refine x_bne rfl rfl rfl rfl trivial ?_
                  | refine x_extract rfl rfl rfl rfl trivial ?_
                  | refine x_nilCheck rfl rfl rfl trivial ?_
                  | refine x_fieldAddr rfl rfl rfl rfl trivial ?_
                  | refine x_skip trivial rfl rfl rfl ?_
                  | refine x_indexAddr1 rfl rfl rfl (by assumption) (by omega) (by omega) rfl trivial ?_
                  | refine x_indexAddr rfl rfl rfl (by assumption) (by omega) (by omega) rfl trivial ?_
                  | refine x_nil ?_
                  | refine cw_seq ?_
                  | refine nw_seq ?_
                  | refine nw_block ?_
                  | refine cw_block ?_
                  | refine cw_skip ?_
                  | refine cw_region ?_
                  | refine cw_exit rfl ?_
                  | refine cw_true rfl ?_
                  | refine cw_false rfl ?_)
                exact nw_round (k' + 1 + 1) (by repeat (first | exact True.intro | refine ⟨rfl, ?_⟩)) ⟨rfl, by omega⟩ (by omega)
              · repeat (first
                  | refine x_move rfl rfl rfl trivial ?_
                  | refine x_assign rfl rfl rfl trivial ?_
                  | refine x_add rfl rfl rfl (wrap_i64 (by omega) (by omega)) rfl trivial ?_
                  | refine x_sub_ rfl rfl rfl (wrap_i64 (by omega) (by omega)) rfl trivial ?_
                  | refine x_sub_ rfl rfl rfl (wrap_u32 (by omega) (by omega)) rfl trivial ?_
                  | refine x_add rfl rfl rfl (wrap_u32 (by omega) (by omega)) rfl trivial ?_
                  | refine x_peqn rfl rfl rfl rfl trivial ?_
                  | refine x_pnen rfl rfl rfl rfl trivial ?_
                  | refine x_mul rfl rfl rfl (wrap_i64 (by omega) (by omega)) rfl trivial ?_
                  | refine x_ibin rfl rfl rfl rfl rfl trivial ?_
                  | refine x_neg_ rfl rfl (wrap_i64 (by omega) (by omega)) rfl trivial ?_
                  | refine x_len rfl rfl (by assumption) rfl trivial ?_
                  | refine x_pick_t rfl rfl rfl rfl trivial ?_
                  | refine x_pick_f rfl rfl rfl rfl trivial ?_
                  | refine x_not rfl rfl rfl trivial ?_
                  | refine x_beq rfl rfl rfl rfl trivial ?_
                  | refine x_bne rfl rfl rfl rfl trivial ?_
                  | refine x_extract rfl rfl rfl rfl trivial ?_
                  | refine x_nilCheck rfl rfl rfl trivial ?_
                  | refine x_fieldAddr rfl rfl rfl rfl trivial ?_
                  | refine x_skip trivial rfl rfl rfl ?_
                  | refine x_indexAddr1 rfl rfl rfl (by assumption) (by omega) (by omega) rfl trivial ?_
                  | refine x_indexAddr rfl rfl rfl (by assumption) (by omega) (by omega) rfl trivial ?_
                  | refine x_nil ?_
                  | refine cw_seq ?_
                  | refine nw_seq ?_
                  | refine nw_block ?_
                  | refine cw_block ?_
                  | refine cw_skip ?_
                  | refine cw_region ?_
                  | refine cw_exit rfl ?_
                  | refine cw_true rfl ?_
                  | refine cw_false rfl ?_)
                refine x_load rfl rfl (hpmt (hcv)) rfl trivial ?_
                repeat (first
                  | refine x_move rfl rfl rfl trivial ?_
                  | refine x_assign rfl rfl rfl trivial ?_
                  | refine x_add rfl rfl rfl (wrap_i64 (by omega) (by omega)) rfl trivial ?_
                  | refine x_sub_ rfl rfl rfl (wrap_i64 (by omega) (by omega)) rfl trivial ?_
                  | refine x_sub_ rfl rfl rfl (wrap_u32 (by omega) (by omega)) rfl trivial ?_
                  | refine x_add rfl rfl rfl (wrap_u32 (by omega) (by omega)) rfl trivial ?_
                  | refine x_peqn rfl rfl rfl rfl trivial ?_
                  | refine x_pnen rfl rfl rfl rfl trivial ?_
                  | refine x_mul rfl rfl rfl (wrap_i64 (by omega) (by omega)) rfl trivial ?_
                  | refine x_ibin rfl rfl rfl rfl rfl trivial ?_
                  | refine x_neg_ rfl rfl (wrap_i64 (by omega) (by omega)) rfl trivial ?_
                  | refine x_len rfl rfl (by assumption) rfl trivial ?_
                  | refine x_pick_t rfl rfl rfl rfl trivial ?_
                  | refine x_pick_f rfl rfl rfl rfl trivial ?_
                  | refine x_not rfl rfl rfl trivial ?_
                  | refine x_beq rfl rfl rfl rfl trivial ?_
                  | refine x_bne rfl rfl rfl rfl trivial ?_
                  | refine x_extract rfl rfl rfl rfl trivial ?_
                  | refine x_nilCheck rfl rfl rfl trivial ?_
                  | refine x_fieldAddr rfl rfl rfl rfl trivial ?_
                  | refine x_skip trivial rfl rfl rfl ?_
                  | refine x_indexAddr1 rfl rfl rfl (by assumption) (by omega) (by omega) rfl trivial ?_
                  | refine x_indexAddr rfl rfl rfl (by assumption) (by omega) (by omega) rfl trivial ?_
                  | refine x_nil ?_
                  | refine cw_seq ?_
                  | refine nw_seq ?_
                  | refine nw_block ?_
                  | refine cw_block ?_
                  | refine cw_skip ?_
                  | refine cw_region ?_
                  | refine cw_exit rfl ?_
                  | refine cw_true rfl ?_
                  | refine cw_false rfl ?_)
                refine cw_cond rfl (fun h => absurd h (by simp; omega)) (fun _ => ?_)
                repeat (first
                  | refine x_move rfl rfl rfl trivial ?_
                  | refine x_assign rfl rfl rfl trivial ?_
                  | refine x_add rfl rfl rfl (wrap_i64 (by omega) (by omega)) rfl trivial ?_
                  | refine x_sub_ rfl rfl rfl (wrap_i64 (by omega) (by omega)) rfl trivial ?_
                  | refine x_sub_ rfl rfl rfl (wrap_u32 (by omega) (by omega)) rfl trivial ?_
                  | refine x_add rfl rfl rfl (wrap_u32 (by omega) (by omega)) rfl trivial ?_
                  | refine x_peqn rfl rfl rfl rfl trivial ?_
                  | refine x_pnen rfl rfl rfl rfl trivial ?_
                  | refine x_mul rfl rfl rfl (wrap_i64 (by omega) (by omega)) rfl trivial ?_
                  | refine x_ibin rfl rfl rfl rfl rfl trivial ?_
                  | refine x_neg_ rfl rfl (wrap_i64 (by omega) (by omega)) rfl trivial ?_
                  | refine x_len rfl rfl (by assumption) rfl trivial ?_
                  | refine x_pick_t rfl rfl rfl rfl trivial ?_
                  | refine x_pick_f rfl rfl rfl rfl trivial ?_
                  | refine x_not rfl rfl rfl trivial ?_
                  | refine x_beq rfl rfl rfl rfl trivial ?_
                  | refine x_bne rfl rfl rfl rfl trivial ?_
                  | refine x_extract rfl rfl rfl rfl trivial ?_
                  | refine x_nilCheck rfl rfl rfl trivial ?_
                  | refine x_fieldAddr rfl rfl rfl rfl trivial ?_
                  | refine x_skip trivial rfl rfl rfl ?_
                  | refine x_indexAddr1 rfl rfl rfl (by assumption) (by omega) (by omega) rfl trivial ?_
                  | refine x_indexAddr rfl rfl rfl (by assumption) (by omega) (by omega) rfl trivial ?_
                  | refine x_nil ?_
                  | refine cw_seq ?_
                  | refine nw_seq ?_
                  | refine nw_block ?_
                  | refine cw_block ?_
                  | refine cw_skip ?_
                  | refine cw_region ?_
                  | refine cw_exit rfl ?_
                  | refine cw_true rfl ?_
                  | refine cw_false rfl ?_)
                exact nw_round (k + 1) (by repeat (first | exact True.intro | refine ⟨rfl, ?_⟩)) ⟨rfl, by omega⟩ (by omega)
            · repeat (first
                | refine x_move rfl rfl rfl trivial ?_
                | refine x_assign rfl rfl rfl trivial ?_
                | refine x_add rfl rfl rfl (wrap_i64 (by omega) (by omega)) rfl trivial ?_
                | refine x_sub_ rfl rfl rfl (wrap_i64 (by omega) (by omega)) rfl trivial ?_
                | refine x_sub_ rfl rfl rfl (wrap_u32 (by omega) (by omega)) rfl trivial ?_
                | refine x_add rfl rfl rfl (wrap_u32 (by omega) (by omega)) rfl trivial ?_
                | refine x_peqn rfl rfl rfl rfl trivial ?_
                | refine x_pnen rfl rfl rfl rfl trivial ?_
                | refine x_mul rfl rfl rfl (wrap_i64 (by omega) (by omega)) rfl trivial ?_
                | refine x_ibin rfl rfl rfl rfl rfl trivial ?_
                | refine x_neg_ rfl rfl (wrap_i64 (by omega) (by omega)) rfl trivial ?_
                | refine x_len rfl rfl (by assumption) rfl trivial ?_
                | refine x_pick_t rfl rfl rfl rfl trivial ?_
                | refine x_pick_f rfl rfl rfl rfl trivial ?_
                | refine x_not rfl rfl rfl trivial ?_
                | refine x_beq rfl rfl rfl rfl trivial ?_
                | refine x_bne rfl rfl rfl rfl trivial ?_
                | refine x_extract rfl rfl rfl rfl trivial ?_
                | refine x_nilCheck rfl rfl rfl trivial ?_
                | refine x_fieldAddr rfl rfl rfl rfl trivial ?_
                | refine x_skip trivial rfl rfl rfl ?_
                | refine x_indexAddr1 rfl rfl rfl (by assumption) (by omega) (by omega) rfl trivial ?_
                | refine x_indexAddr rfl rfl rfl (by assumption) (by omega) (by omega) rfl trivial ?_
                | refine x_nil ?_
                | refine cw_seq ?_
                | refine nw_seq ?_
                | refine nw_block ?_
                | refine cw_block ?_
                | refine cw_skip ?_
                | refine cw_region ?_
                | refine cw_exit rfl ?_
                | refine cw_true rfl ?_
                | refine cw_false rfl ?_)
              rw [← hl5]
              exact nw_round (i + 1, (takeA a [IntKind.u64.wrap (n : Int)]).2.2) (by repeat (first | exact True.intro | refine ⟨rfl, ?_⟩)) ⟨by show i + 1 ≤ _; omega, hA5, hwt, l3.trans ham, by show (takeA a [IntKind.u64.wrap (n : Int)]).2.2.cs.length ≤ i + 1; omega, by show (takeA a [IntKind.u64.wrap (n : Int)]).2.2.back.length ≤ i + 1; omega⟩ (by show turns.length - (i + 1) < turns.length - i; omega)
    · have hie : i = turns.length := by omega
      repeat (first
        | refine x_move rfl rfl rfl trivial ?_
        | refine x_assign rfl rfl rfl trivial ?_
        | refine x_add rfl rfl rfl (wrap_i64 (by omega) (by omega)) rfl trivial ?_
        | refine x_sub_ rfl rfl rfl (wrap_i64 (by omega) (by omega)) rfl trivial ?_
        | refine x_sub_ rfl rfl rfl (wrap_u32 (by omega) (by omega)) rfl trivial ?_
        | refine x_add rfl rfl rfl (wrap_u32 (by omega) (by omega)) rfl trivial ?_
        | refine x_peqn rfl rfl rfl rfl trivial ?_
        | refine x_pnen rfl rfl rfl rfl trivial ?_
        | refine x_mul rfl rfl rfl (wrap_i64 (by omega) (by omega)) rfl trivial ?_
        | refine x_ibin rfl rfl rfl rfl rfl trivial ?_
        | refine x_neg_ rfl rfl (wrap_i64 (by omega) (by omega)) rfl trivial ?_
        | refine x_len rfl rfl (by assumption) rfl trivial ?_
        | refine x_pick_t rfl rfl rfl rfl trivial ?_
        | refine x_pick_f rfl rfl rfl rfl trivial ?_
        | refine x_not rfl rfl rfl trivial ?_
        | refine x_beq rfl rfl rfl rfl trivial ?_
        | refine x_bne rfl rfl rfl rfl trivial ?_
        | refine x_extract rfl rfl rfl rfl trivial ?_
        | refine x_nilCheck rfl rfl rfl trivial ?_
        | refine x_fieldAddr rfl rfl rfl rfl trivial ?_
        | refine x_skip trivial rfl rfl rfl ?_
        | refine x_indexAddr1 rfl rfl rfl (by assumption) (by omega) (by omega) rfl trivial ?_
        | refine x_indexAddr rfl rfl rfl (by assumption) (by omega) (by omega) rfl trivial ?_
        | refine x_nil ?_
        | refine cw_seq ?_
        | refine nw_seq ?_
        | refine nw_block ?_
        | refine cw_block ?_
        | refine cw_skip ?_
        | refine cw_region ?_
        | refine cw_exit rfl ?_
        | refine cw_true rfl ?_
        | refine cw_false rfl ?_)
      refine x_call rfl rfl rfl trivial (as_Free (a := a) hA2 hwa (by omega) (by omega)) ?_
      rintro _ _ ⟨rfl, rfl⟩
      refine ⟨trivial, ?_⟩
      repeat (first
        | refine x_move rfl rfl rfl trivial ?_
        | refine x_assign rfl rfl rfl trivial ?_
        | refine x_add rfl rfl rfl (wrap_i64 (by omega) (by omega)) rfl trivial ?_
        | refine x_sub_ rfl rfl rfl (wrap_i64 (by omega) (by omega)) rfl trivial ?_
        | refine x_sub_ rfl rfl rfl (wrap_u32 (by omega) (by omega)) rfl trivial ?_
        | refine x_add rfl rfl rfl (wrap_u32 (by omega) (by omega)) rfl trivial ?_
        | refine x_peqn rfl rfl rfl rfl trivial ?_
        | refine x_pnen rfl rfl rfl rfl trivial ?_
        | refine x_mul rfl rfl rfl (wrap_i64 (by omega) (by omega)) rfl trivial ?_
        | refine x_ibin rfl rfl rfl rfl rfl trivial ?_
        | refine x_neg_ rfl rfl (wrap_i64 (by omega) (by omega)) rfl trivial ?_
        | refine x_len rfl rfl (by assumption) rfl trivial ?_
        | refine x_pick_t rfl rfl rfl rfl trivial ?_
        | refine x_pick_f rfl rfl rfl rfl trivial ?_
        | refine x_not rfl rfl rfl trivial ?_
        | refine x_beq rfl rfl rfl rfl trivial ?_
        | refine x_bne rfl rfl rfl rfl trivial ?_
        | refine x_extract rfl rfl rfl rfl trivial ?_
        | refine x_nilCheck rfl rfl rfl trivial ?_
        | refine x_fieldAddr rfl rfl rfl rfl trivial ?_
        | refine x_skip trivial rfl rfl rfl ?_
        | refine x_indexAddr1 rfl rfl rfl (by assumption) (by omega) (by omega) rfl trivial ?_
        | refine x_indexAddr rfl rfl rfl (by assumption) (by omega) (by omega) rfl trivial ?_
        | refine x_nil ?_
        | refine cw_seq ?_
        | refine nw_seq ?_
        | refine nw_block ?_
        | refine cw_block ?_
        | refine cw_skip ?_
        | refine cw_region ?_
        | refine cw_exit rfl ?_
        | refine cw_true rfl ?_
        | refine cw_false rfl ?_)
      refine x_true 146 rfl (by simp [ham]) ?_
      repeat (first
        | refine x_move rfl rfl rfl trivial ?_
        | refine x_assign rfl rfl rfl trivial ?_
        | refine x_add rfl rfl rfl (wrap_i64 (by omega) (by omega)) rfl trivial ?_
        | refine x_sub_ rfl rfl rfl (wrap_i64 (by omega) (by omega)) rfl trivial ?_
        | refine x_sub_ rfl rfl rfl (wrap_u32 (by omega) (by omega)) rfl trivial ?_
        | refine x_add rfl rfl rfl (wrap_u32 (by omega) (by omega)) rfl trivial ?_
        | refine x_peqn rfl rfl rfl rfl trivial ?_
        | refine x_pnen rfl rfl rfl rfl trivial ?_
        | refine x_mul rfl rfl rfl (wrap_i64 (by omega) (by omega)) rfl trivial ?_
        | refine x_ibin rfl rfl rfl rfl rfl trivial ?_
        | refine x_neg_ rfl rfl (wrap_i64 (by omega) (by omega)) rfl trivial ?_
        | refine x_len rfl rfl (by assumption) rfl trivial ?_
        | refine x_pick_t rfl rfl rfl rfl trivial ?_
        | refine x_pick_f rfl rfl rfl rfl trivial ?_
        | refine x_not rfl rfl rfl trivial ?_
        | refine x_beq rfl rfl rfl rfl trivial ?_
        | refine x_bne rfl rfl rfl rfl trivial ?_
        | refine x_extract rfl rfl rfl rfl trivial ?_
        | refine x_nilCheck rfl rfl rfl trivial ?_
        | refine x_fieldAddr rfl rfl rfl rfl trivial ?_
        | refine x_skip trivial rfl rfl rfl ?_
        | refine x_indexAddr1 rfl rfl rfl (by assumption) (by omega) (by omega) rfl trivial ?_
        | refine x_indexAddr rfl rfl rfl (by assumption) (by omega) (by omega) rfl trivial ?_
        | refine x_nil ?_
        | refine cw_seq ?_
        | refine nw_seq ?_
        | refine nw_block ?_
        | refine cw_block ?_
        | refine cw_skip ?_
        | refine cw_region ?_
        | refine cw_exit rfl ?_
        | refine cw_true rfl ?_
        | refine cw_false rfl ?_)
      refine x_call rfl rfl rfl trivial (awake5 _) ?_
      rintro _ Hz ⟨rfl, hkz⟩
      refine ⟨trivial, ?_⟩
      repeat (first
        | refine x_move rfl rfl rfl trivial ?_
        | refine x_assign rfl rfl rfl trivial ?_
        | refine x_add rfl rfl rfl (wrap_i64 (by omega) (by omega)) rfl trivial ?_
        | refine x_sub_ rfl rfl rfl (wrap_i64 (by omega) (by omega)) rfl trivial ?_
        | refine x_sub_ rfl rfl rfl (wrap_u32 (by omega) (by omega)) rfl trivial ?_
        | refine x_add rfl rfl rfl (wrap_u32 (by omega) (by omega)) rfl trivial ?_
        | refine x_peqn rfl rfl rfl rfl trivial ?_
        | refine x_pnen rfl rfl rfl rfl trivial ?_
        | refine x_mul rfl rfl rfl (wrap_i64 (by omega) (by omega)) rfl trivial ?_
        | refine x_ibin rfl rfl rfl rfl rfl trivial ?_
        | refine x_neg_ rfl rfl (wrap_i64 (by omega) (by omega)) rfl trivial ?_
        | refine x_len rfl rfl (by assumption) rfl trivial ?_
        | refine x_pick_t rfl rfl rfl rfl trivial ?_
        | refine x_pick_f rfl rfl rfl rfl trivial ?_
        | refine x_not rfl rfl rfl trivial ?_
        | refine x_beq rfl rfl rfl rfl trivial ?_
        | refine x_bne rfl rfl rfl rfl trivial ?_
        | refine x_extract rfl rfl rfl rfl trivial ?_
        | refine x_nilCheck rfl rfl rfl trivial ?_
        | refine x_fieldAddr rfl rfl rfl rfl trivial ?_
        | refine x_skip trivial rfl rfl rfl ?_
        | refine x_indexAddr1 rfl rfl rfl (by assumption) (by omega) (by omega) rfl trivial ?_
        | refine x_indexAddr rfl rfl rfl (by assumption) (by omega) (by omega) rfl trivial ?_
        | refine x_nil ?_
        | refine cw_seq ?_
        | refine nw_seq ?_
        | refine nw_block ?_
        | refine cw_block ?_
        | refine cw_skip ?_
        | refine cw_region ?_
        | refine cw_exit rfl ?_
        | refine cw_true rfl ?_
        | refine cw_false rfl ?_)
      exact cw_ret1 rfl rfl ⟨rfl, (hk2).non_trans hkz⟩
end Go.Proofs.Ytioaicleodjmpaa.X
