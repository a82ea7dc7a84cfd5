/- Chapter 6's own answer: what its functions answer. -/
import Derived.Test.YtjknjlofkecflaaSpan
namespace Go.Proofs.Ytjknjlofkecflaa.X
open Go Go.Proofs
set_option linter.unusedVariables false
set_option maxRecDepth 10000
set_option maxHeartbeats 2000000

def encS (v : Value) : List Value := [v]
theorem encS_len (v : Value) : (encS v).length = 1 := rfl
def encB (b : Bool) : List Value := [.bool b]
theorem encB_len (b : Bool) : (encB b).length = 1 := rfl
/-- parts: 1 the pool, 2 its strings, 3 what was given back, 4 bytes, 5 which are there -/
def BsR (K : Role) (H : Heap) (v : Value) (l : Bytes) : Prop := Bs H v l ∧ (l ≠ [] → K (sb v) = 4)
def tS (p : Pl) : List Bytes := [] :: p.tx.map (·.1)
def tB (p : Pl) : List Bool := false :: p.tx.map (·.2)
structure Sq (K : Role) (H : Heap) (b : Nat) (p : Pl) : Prop where
  kin : K.In H
  one : K b = 1
  row : ∃ vs vt vb, Blk H b [vs, vt, vb, .int .i64 p.most, .int .i64 p.used] ∧ Rw encS 1 (BsR K H) H vs (tS p) ∧ K (sb vs) = 2 ∧ Rw encB 1 Eq H vt (tB p) ∧ K (sb vt) = 5 ∧ Rw encU 1 Eq H vb p.back ∧ (0 < sc vb → K (sb vb) = 3)
theorem BsR.keep {K K' : Role} {S : Nat → Prop} {H H' : Heap} {v : Value} {l : Bytes} (h : BsR K H v l) (k : Keep S H H') (hS : ∀ b, K b = 4 → ¬ S b) (hK : ∀ b, K b = 4 → K' b = 4) : BsR K' H' v l :=
  ⟨h.1.keep k (fun e => hS _ (h.2 e)), fun e => hK _ (h.2 e)⟩
theorem Sq.keep {K : Role} {S : Nat → Prop} {H H' : Heap} {b : Nat} {p : Pl} (h : Sq K H b p) (k : Keep S H H') (hS : ∀ b, K b ≠ 0 → ¬ S b) : Sq K H' b p := by
  obtain ⟨vs, vt, vb, h1, h2, h3, h4, h5, h6, h7⟩ := h.row
  refine ⟨h.kin.mono k.size, h.one, vs, vt, vb, h1.keep k (hS b (by rw [h.one]; decide)), ?_, h3, h4.keep k (fun _ => hS _ (by rw [h5]; decide)), h5, h6.keep k (fun hc => hS _ (by rw [h7 hc]; decide)), h7⟩
  exact (h2.keep k (fun _ => hS _ (by rw [h3]; decide))).mono fun x y hxy => hxy.keep k (fun b hb => hS b (by rw [hb]; decide)) (fun _ h => h)
theorem Sq.keepN {K : Role} {H H' : Heap} {b : Nat} {p : Pl} (h : Sq K H b p) (k : Keep Non H H') : Sq K H' b p := h.keep k (fun _ _ h => h)
theorem tB_get {p : Pl} {h : Nat} (hh : h < p.tx.length + 1) : (tB p)[h]? = some (hasP p h) := by
  unfold tB hasP
  cases h with
  | zero => cases p.tx[0 - 1]? <;> simp
  | succ h =>
    rw [Nat.add_sub_cancel, List.getElem?_cons_succ, List.getElem?_map]
    rw [List.getElem?_eq_getElem (show h < p.tx.length by omega)]
    simp
theorem hasP_lt {p : Pl} {h : Nat} (hh : ¬ h < p.tx.length + 1) : hasP p h = false := by
  unfold hasP
  rw [List.getElem?_eq_none (by omega)]
theorem tS_get {p : Pl} {h : Nat} (hh : hasP p h = true) : (tS p)[h]? = some (strP p h) := by
  obtain ⟨h1, b, h2⟩ := hasP_iff.1 hh
  obtain ⟨h, rfl⟩ : ∃ m, h = m + 1 := ⟨h - 1, by omega⟩
  unfold tS strP
  rw [Nat.add_sub_cancel] at h2 ⊢
  rw [List.getElem?_cons_succ, List.getElem?_map, h2]
  rfl
/-- a row of one cell each -/
theorem Rd.cel1 {α β : Type} {enc : α → List Value} {R : α → β → Prop} {H : Heap} {v : Value} {l : List β} (h : Rd enc R H v l) (hs : ∀ x, (enc x).length = 1) {i : Nat} {p : β} (hp : l[i]? = some p) : ∃ x, R x p ∧ X.cel H (sb v) (so v + i) = (enc x)[0]? := by
  obtain ⟨x, h1, h2⟩ := h.cel hs hp
  refine ⟨x, h1, ?_⟩
  have := h2 0 (by omega)
  rwa [Nat.mul_one, Nat.add_zero] at this

theorem ref6_New (most : Int) (H : Heap) : Ret Try.prog 8 [.int .i64 most] H (fun v H' => (¬ (0 ≤ most ∧ most ≤ 16777216) ∧ H = H' ∧ v = .pointer none) ∨
    ((0 ≤ most ∧ most ≤ 16777216) ∧ Keep Non H H' ∧ ∃ b K, v = ptr b 0 ∧ Sq K H' b ⟨most, 0, [], []⟩ ∧ K.From H.size)) := by
  refine ret_of Try.func8 rfl rfl rfl rfl ?_
  intro w0
  repeat (first
    | refine x_move rfl rfl rfl trivial ?_
    | refine x_assign rfl rfl rfl trivial ?_
    | refine x_add rfl rfl rfl (wrap_i64 (by omega) (by omega)) rfl trivial ?_
    | refine x_sub_ rfl rfl rfl (wrap_i64 (by omega) (by omega)) rfl trivial ?_
    | refine x_sub_ rfl rfl rfl (wrap_u32 (by omega) (by omega)) rfl trivial ?_
    | refine x_add rfl rfl rfl (wrap_u32 (by omega) (by omega)) rfl trivial ?_
    | refine x_peqn rfl rfl rfl rfl trivial ?_
    | refine x_pnen rfl rfl rfl rfl trivial ?_
    | refine x_mul rfl rfl rfl (wrap_i64 (by omega) (by omega)) rfl trivial ?_
    | refine x_ibin rfl rfl rfl rfl rfl trivial ?_
    | refine x_neg_ rfl rfl (wrap_i64 (by omega) (by omega)) rfl trivial ?_
    | refine x_len rfl rfl (by assumption) rfl trivial ?_
    | refine x_pick_t rfl rfl rfl rfl trivial ?_
    | refine x_pick_f rfl rfl rfl rfl trivial ?_
    | refine x_not rfl rfl rfl trivial ?_
    | refine x_beq rfl rfl rfl rfl trivial ?_
    | refine x_bne rfl rfl rfl rfl trivial ?_
    | refine x_extract rfl rfl rfl rfl trivial ?_
    | refine x_nilCheck rfl rfl rfl trivial ?_
    | refine x_fieldAddr rfl rfl rfl rfl trivial ?_
    | refine x_skip trivial rfl rfl rfl ?_
    | refine x_indexAddr1 rfl rfl rfl (by assumption) (by omega) (by omega) rfl trivial ?_
    | refine x_indexAddr rfl rfl rfl (by assumption) (by omega) (by omega) rfl trivial ?_
    | refine x_nil ?_
    | refine cw_seq ?_
    | refine nw_seq ?_
    | refine nw_block ?_
    | refine cw_block ?_
    | refine cw_skip ?_
    | refine cw_region ?_
    | refine cw_exit rfl ?_
    | refine cw_true rfl ?_
    | refine cw_false rfl ?_)
  refine x_split 5 rfl (fun h1 => ?_) (fun h1 => ?_) <;> (try simp at h1)
  · repeat (first
      | refine x_move rfl rfl rfl trivial ?_
      | refine x_assign rfl rfl rfl trivial ?_
      | refine x_add rfl rfl rfl (wrap_i64 (by omega) (by omega)) rfl trivial ?_
      | refine x_sub_ rfl rfl rfl (wrap_i64 (by omega) (by omega)) rfl trivial ?_
      | refine x_sub_ rfl rfl rfl (wrap_u32 (by omega) (by omega)) rfl trivial ?_
      | refine x_add rfl rfl rfl (wrap_u32 (by omega) (by omega)) rfl trivial ?_
      | refine x_peqn rfl rfl rfl rfl trivial ?_
      | refine x_pnen rfl rfl rfl rfl trivial ?_
      | refine x_mul rfl rfl rfl (wrap_i64 (by omega) (by omega)) rfl trivial ?_
      | refine x_ibin rfl rfl rfl rfl rfl trivial ?_
      | refine x_neg_ rfl rfl (wrap_i64 (by omega) (by omega)) rfl trivial ?_
      | refine x_len rfl rfl (by assumption) rfl trivial ?_
      | refine x_pick_t rfl rfl rfl rfl trivial ?_
      | refine x_pick_f rfl rfl rfl rfl trivial ?_
      | refine x_not rfl rfl rfl trivial ?_
      | refine x_beq rfl rfl rfl rfl trivial ?_
      | refine x_bne rfl rfl rfl rfl trivial ?_
      | refine x_extract rfl rfl rfl rfl trivial ?_
      | refine x_nilCheck rfl rfl rfl trivial ?_
      | refine x_fieldAddr rfl rfl rfl rfl trivial ?_
      | refine x_skip trivial rfl rfl rfl ?_
      | refine x_indexAddr1 rfl rfl rfl (by assumption) (by omega) (by omega) rfl trivial ?_
      | refine x_indexAddr rfl rfl rfl (by assumption) (by omega) (by omega) rfl trivial ?_
      | refine x_nil ?_
      | refine cw_seq ?_
      | refine nw_seq ?_
      | refine nw_block ?_
      | refine cw_block ?_
      | refine cw_skip ?_
      | refine cw_region ?_
      | refine cw_exit rfl ?_
      | refine cw_true rfl ?_
      | refine cw_false rfl ?_)
    exact cw_ret1 rfl rfl (.inl ⟨by omega, rfl, rfl⟩)
  · repeat (first
      | refine x_move rfl rfl rfl trivial ?_
      | refine x_assign rfl rfl rfl trivial ?_
      | refine x_add rfl rfl rfl (wrap_i64 (by omega) (by omega)) rfl trivial ?_
      | refine x_sub_ rfl rfl rfl (wrap_i64 (by omega) (by omega)) rfl trivial ?_
      | refine x_sub_ rfl rfl rfl (wrap_u32 (by omega) (by omega)) rfl trivial ?_
      | refine x_add rfl rfl rfl (wrap_u32 (by omega) (by omega)) rfl trivial ?_
      | refine x_peqn rfl rfl rfl rfl trivial ?_
      | refine x_pnen rfl rfl rfl rfl trivial ?_
      | refine x_mul rfl rfl rfl (wrap_i64 (by omega) (by omega)) rfl trivial ?_
      | refine x_ibin rfl rfl rfl rfl rfl trivial ?_
      | refine x_neg_ rfl rfl (wrap_i64 (by omega) (by omega)) rfl trivial ?_
      | refine x_len rfl rfl (by assumption) rfl trivial ?_
      | refine x_pick_t rfl rfl rfl rfl trivial ?_
      | refine x_pick_f rfl rfl rfl rfl trivial ?_
      | refine x_not rfl rfl rfl trivial ?_
      | refine x_beq rfl rfl rfl rfl trivial ?_
      | refine x_bne rfl rfl rfl rfl trivial ?_
      | refine x_extract rfl rfl rfl rfl trivial ?_
      | refine x_nilCheck rfl rfl rfl trivial ?_
      | refine x_fieldAddr rfl rfl rfl rfl trivial ?_
      | refine x_skip trivial rfl rfl rfl ?_
      | refine x_indexAddr1 rfl rfl rfl (by assumption) (by omega) (by omega) rfl trivial ?_
      | refine x_indexAddr rfl rfl rfl (by assumption) (by omega) (by omega) rfl trivial ?_
      | refine x_nil ?_
      | refine cw_seq ?_
      | refine nw_seq ?_
      | refine nw_block ?_
      | refine cw_block ?_
      | refine cw_skip ?_
      | refine cw_region ?_
      | refine cw_exit rfl ?_
      | refine cw_true rfl ?_
      | refine cw_false rfl ?_)
    refine cw_cond rfl (fun h2 => ?_) (fun h2 => ?_) <;> (try simp at h2)
    · repeat (first
        | refine x_move rfl rfl rfl trivial ?_
        | refine x_assign rfl rfl rfl trivial ?_
        | refine x_add rfl rfl rfl (wrap_i64 (by omega) (by omega)) rfl trivial ?_
        | refine x_sub_ rfl rfl rfl (wrap_i64 (by omega) (by omega)) rfl trivial ?_
        | refine x_sub_ rfl rfl rfl (wrap_u32 (by omega) (by omega)) rfl trivial ?_
        | refine x_add rfl rfl rfl (wrap_u32 (by omega) (by omega)) rfl trivial ?_
        | refine x_peqn rfl rfl rfl rfl trivial ?_
        | refine x_pnen rfl rfl rfl rfl trivial ?_
        | refine x_mul rfl rfl rfl (wrap_i64 (by omega) (by omega)) rfl trivial ?_
        | refine x_ibin rfl rfl rfl rfl rfl trivial ?_
        | refine x_neg_ rfl rfl (wrap_i64 (by omega) (by omega)) rfl trivial ?_
        | refine x_len rfl rfl (by assumption) rfl trivial ?_
        | refine x_pick_t rfl rfl rfl rfl trivial ?_
        | refine x_pick_f rfl rfl rfl rfl trivial ?_
        | refine x_not rfl rfl rfl trivial ?_
        | refine x_beq rfl rfl rfl rfl trivial ?_
        | refine x_bne rfl rfl rfl rfl trivial ?_
        | refine x_extract rfl rfl rfl rfl trivial ?_
        | refine x_nilCheck rfl rfl rfl trivial ?_
        | refine x_fieldAddr rfl rfl rfl rfl trivial ?_
        | refine x_skip trivial rfl rfl rfl ?_
        | refine x_indexAddr1 rfl rfl rfl (by assumption) (by omega) (by omega) rfl trivial ?_
        | refine x_indexAddr rfl rfl rfl (by assumption) (by omega) (by omega) rfl trivial ?_
        | refine x_nil ?_
        | refine cw_seq ?_
        | refine nw_seq ?_
        | refine nw_block ?_
        | refine cw_block ?_
        | refine cw_skip ?_
        | refine cw_region ?_
        | refine cw_exit rfl ?_
        | refine cw_true rfl ?_
        | refine cw_false rfl ?_)
      exact cw_ret1 rfl rfl (.inl ⟨by omega, rfl, rfl⟩)
    · repeat (first
        | refine x_move rfl rfl rfl trivial ?_
        | refine x_assign rfl rfl rfl trivial ?_
        | refine x_add rfl rfl rfl (wrap_i64 (by omega) (by omega)) rfl trivial ?_
        | refine x_sub_ rfl rfl rfl (wrap_i64 (by omega) (by omega)) rfl trivial ?_
        | refine x_sub_ rfl rfl rfl (wrap_u32 (by omega) (by omega)) rfl trivial ?_
        | refine x_add rfl rfl rfl (wrap_u32 (by omega) (by omega)) rfl trivial ?_
        | refine x_peqn rfl rfl rfl rfl trivial ?_
        | refine x_pnen rfl rfl rfl rfl trivial ?_
        | refine x_mul rfl rfl rfl (wrap_i64 (by omega) (by omega)) rfl trivial ?_
        | refine x_ibin rfl rfl rfl rfl rfl trivial ?_
        | refine x_neg_ rfl rfl (wrap_i64 (by omega) (by omega)) rfl trivial ?_
        | refine x_len rfl rfl (by assumption) rfl trivial ?_
        | refine x_pick_t rfl rfl rfl rfl trivial ?_
        | refine x_pick_f rfl rfl rfl rfl trivial ?_
        | refine x_not rfl rfl rfl trivial ?_
        | refine x_beq rfl rfl rfl rfl trivial ?_
        | refine x_bne rfl rfl rfl rfl trivial ?_
        | refine x_extract rfl rfl rfl rfl trivial ?_
        | refine x_nilCheck rfl rfl rfl trivial ?_
        | refine x_fieldAddr rfl rfl rfl rfl trivial ?_
        | refine x_skip trivial rfl rfl rfl ?_
        | refine x_indexAddr1 rfl rfl rfl (by assumption) (by omega) (by omega) rfl trivial ?_
        | refine x_indexAddr rfl rfl rfl (by assumption) (by omega) (by omega) rfl trivial ?_
        | refine x_nil ?_
        | refine cw_seq ?_
        | refine nw_seq ?_
        | refine nw_block ?_
        | refine cw_block ?_
        | refine cw_skip ?_
        | refine cw_region ?_
        | refine cw_exit rfl ?_
        | refine cw_true rfl ?_
        | refine cw_false rfl ?_)
      refine x_buildSlice rfl rfl rfl rfl (by omega) (by simp [oneC, Value.oneCell']) rfl trivial ?_
      intro H1 hn1
      refine ⟨trivial, ?_⟩
      repeat (first
        | refine x_move rfl rfl rfl trivial ?_
        | refine x_assign rfl rfl rfl trivial ?_
        | refine x_add rfl rfl rfl (wrap_i64 (by omega) (by omega)) rfl trivial ?_
        | refine x_sub_ rfl rfl rfl (wrap_i64 (by omega) (by omega)) rfl trivial ?_
        | refine x_sub_ rfl rfl rfl (wrap_u32 (by omega) (by omega)) rfl trivial ?_
        | refine x_add rfl rfl rfl (wrap_u32 (by omega) (by omega)) rfl trivial ?_
        | refine x_peqn rfl rfl rfl rfl trivial ?_
        | refine x_pnen rfl rfl rfl rfl trivial ?_
        | refine x_mul rfl rfl rfl (wrap_i64 (by omega) (by omega)) rfl trivial ?_
        | refine x_ibin rfl rfl rfl rfl rfl trivial ?_
        | refine x_neg_ rfl rfl (wrap_i64 (by omega) (by omega)) rfl trivial ?_
        | refine x_len rfl rfl (by assumption) rfl trivial ?_
        | refine x_pick_t rfl rfl rfl rfl trivial ?_
        | refine x_pick_f rfl rfl rfl rfl trivial ?_
        | refine x_not rfl rfl rfl trivial ?_
        | refine x_beq rfl rfl rfl rfl trivial ?_
        | refine x_bne rfl rfl rfl rfl trivial ?_
        | refine x_extract rfl rfl rfl rfl trivial ?_
        | refine x_nilCheck rfl rfl rfl trivial ?_
        | refine x_fieldAddr rfl rfl rfl rfl trivial ?_
        | refine x_skip trivial rfl rfl rfl ?_
        | refine x_indexAddr1 rfl rfl rfl (by assumption) (by omega) (by omega) rfl trivial ?_
        | refine x_indexAddr rfl rfl rfl (by assumption) (by omega) (by omega) rfl trivial ?_
        | refine x_nil ?_
        | refine cw_seq ?_
        | refine nw_seq ?_
        | refine nw_block ?_
        | refine cw_block ?_
        | refine cw_skip ?_
        | refine cw_region ?_
        | refine cw_exit rfl ?_
        | refine cw_true rfl ?_
        | refine cw_false rfl ?_)
      refine x_buildSlice rfl rfl rfl rfl (by omega) (by simp [oneC, Value.oneCell']) rfl trivial ?_
      intro H2 hn2
      refine ⟨trivial, ?_⟩
      repeat (first
        | refine x_move rfl rfl rfl trivial ?_
        | refine x_assign rfl rfl rfl trivial ?_
        | refine x_add rfl rfl rfl (wrap_i64 (by omega) (by omega)) rfl trivial ?_
        | refine x_sub_ rfl rfl rfl (wrap_i64 (by omega) (by omega)) rfl trivial ?_
        | refine x_sub_ rfl rfl rfl (wrap_u32 (by omega) (by omega)) rfl trivial ?_
        | refine x_add rfl rfl rfl (wrap_u32 (by omega) (by omega)) rfl trivial ?_
        | refine x_peqn rfl rfl rfl rfl trivial ?_
        | refine x_pnen rfl rfl rfl rfl trivial ?_
        | refine x_mul rfl rfl rfl (wrap_i64 (by omega) (by omega)) rfl trivial ?_
        | refine x_ibin rfl rfl rfl rfl rfl trivial ?_
        | refine x_neg_ rfl rfl (wrap_i64 (by omega) (by omega)) rfl trivial ?_
        | refine x_len rfl rfl (by assumption) rfl trivial ?_
        | refine x_pick_t rfl rfl rfl rfl trivial ?_
        | refine x_pick_f rfl rfl rfl rfl trivial ?_
        | refine x_not rfl rfl rfl trivial ?_
        | refine x_beq rfl rfl rfl rfl trivial ?_
        | refine x_bne rfl rfl rfl rfl trivial ?_
        | refine x_extract rfl rfl rfl rfl trivial ?_
        | refine x_nilCheck rfl rfl rfl trivial ?_
        | refine x_fieldAddr rfl rfl rfl rfl trivial ?_
        | refine x_skip trivial rfl rfl rfl ?_
        | refine x_indexAddr1 rfl rfl rfl (by assumption) (by omega) (by omega) rfl trivial ?_
        | refine x_indexAddr rfl rfl rfl (by assumption) (by omega) (by omega) rfl trivial ?_
        | refine x_nil ?_
        | refine cw_seq ?_
        | refine nw_seq ?_
        | refine nw_block ?_
        | refine cw_block ?_
        | refine cw_skip ?_
        | refine cw_region ?_
        | refine cw_exit rfl ?_
        | refine cw_true rfl ?_
        | refine cw_false rfl ?_)
      refine x_build (cs := [.slice (some ⟨H.size, 0, none⟩) 1 1, .slice (some ⟨H1.size, 0, none⟩) 1 1, .slice none 0 0, .int .i64 most, .int .i64 0]) rfl rfl rfl (by simp [oneC, Value.oneCell']) rfl trivial ?_
      refine x_box rfl rfl rfl trivial ?_
      intro H3 hn3
      refine ⟨trivial, ?_⟩
      have hs1 := hn1.size
      have hs2 := hn2.size
      have hs3 := hn3.size
      repeat (first
        | refine x_move rfl rfl rfl trivial ?_
        | refine x_assign rfl rfl rfl trivial ?_
        | refine x_add rfl rfl rfl (wrap_i64 (by omega) (by omega)) rfl trivial ?_
        | refine x_sub_ rfl rfl rfl (wrap_i64 (by omega) (by omega)) rfl trivial ?_
        | refine x_sub_ rfl rfl rfl (wrap_u32 (by omega) (by omega)) rfl trivial ?_
        | refine x_add rfl rfl rfl (wrap_u32 (by omega) (by omega)) rfl trivial ?_
        | refine x_peqn rfl rfl rfl rfl trivial ?_
        | refine x_pnen rfl rfl rfl rfl trivial ?_
        | refine x_mul rfl rfl rfl (wrap_i64 (by omega) (by omega)) rfl trivial ?_
        | refine x_ibin rfl rfl rfl rfl rfl trivial ?_
        | refine x_neg_ rfl rfl (wrap_i64 (by omega) (by omega)) rfl trivial ?_
        | refine x_len rfl rfl (by assumption) rfl trivial ?_
        | refine x_pick_t rfl rfl rfl rfl trivial ?_
        | refine x_pick_f rfl rfl rfl rfl trivial ?_
        | refine x_not rfl rfl rfl trivial ?_
        | refine x_beq rfl rfl rfl rfl trivial ?_
        | refine x_bne rfl rfl rfl rfl trivial ?_
        | refine x_extract rfl rfl rfl rfl trivial ?_
        | refine x_nilCheck rfl rfl rfl trivial ?_
        | refine x_fieldAddr rfl rfl rfl rfl trivial ?_
        | refine x_skip trivial rfl rfl rfl ?_
        | refine x_indexAddr1 rfl rfl rfl (by assumption) (by omega) (by omega) rfl trivial ?_
        | refine x_indexAddr rfl rfl rfl (by assumption) (by omega) (by omega) rfl trivial ?_
        | refine x_nil ?_
        | refine cw_seq ?_
        | refine nw_seq ?_
        | refine nw_block ?_
        | refine cw_block ?_
        | refine cw_skip ?_
        | refine cw_region ?_
        | refine cw_exit rfl ?_
        | refine cw_true rfl ?_
        | refine cw_false rfl ?_)
      refine cw_ret1 rfl rfl (.inr ⟨⟨h1, h2⟩, hn3.old (hn2.old hn1.keep), H2.size, fun c => if c = H2.size then 1 else if c = H.size then 2 else if c = H1.size then 5 else 0, rfl, ⟨fun c hc => ?_, if_pos rfl, _, _, _, hn3.blk, ?_, ?_, ?_, ?_, Rw.nil _ _ _ _, fun h => by simp [sc] at h⟩, fun c hc => ?_⟩)
      · by_cases e : c = H2.size <;> by_cases e1 : c = H.size <;> by_cases e2 : c = H1.size <;> simp [e, e1, e2] at hc ⊢ <;> omega
      · exact ⟨[.slice none 0 0], Al.one ⟨Bs.nil _, fun h => absurd rfl h⟩, ((Own.new hn1 rfl (by omega)).keep hn2.keep (fun _ h => h)).keep hn3.keep (fun _ h => h)⟩
      · show (if H.size = H2.size then 1 else if H.size = H.size then 2 else if H.size = H1.size then 5 else 0) = 2
        rw [if_neg (by omega), if_pos rfl]
      · exact ⟨[false], Al.one rfl, (Own.new hn2 rfl (by omega)).keep hn3.keep (fun _ h => h)⟩
      · show (if H1.size = H2.size then 1 else if H1.size = H.size then 2 else if H1.size = H1.size then 5 else 0) = 5
        rw [if_neg (by omega), if_neg (by omega), if_pos rfl]
      · by_cases e : c = H2.size <;> by_cases e1 : c = H.size <;> by_cases e2 : c = H1.size <;> simp [e, e1, e2] at hc ⊢ <;> omega

theorem ref6_Has {K : Role} {b h : Nat} {p : Pl} {H : Heap} (hS : Sq K H b p) (hh : h < 4294967296) :
    Ret Try.prog 19 [ptr b 0, .int .u32 (h : Nat)] H (fun v H' => H = H' ∧ v = .bool (hasP p h)) := by
  obtain ⟨vs, vt, vb, h1, h2, h3, h4, h5, h6, h7⟩ := hS.row
  have sS := h2.sl
  have sT := h4.sl
  have e1 : (tS p).length = p.tx.length + 1 := by simp [tS]
  have e2 : (tB p).length = p.tx.length + 1 := by simp [tB]
  rw [e1] at sS
  rw [e2] at sT
  have c0 : cel H b 0 = some vs := by rw [h1.cel]; rfl
  have c1 : cel H b 1 = some vt := by rw [h1.cel]; rfl
  refine ret_of Try.func19 rfl rfl rfl rfl ?_
  intro w0
  repeat (first
    | refine x_move rfl rfl rfl trivial ?_
    | refine x_assign rfl rfl rfl trivial ?_
    | refine x_add rfl rfl rfl (wrap_i64 (by omega) (by omega)) rfl trivial ?_
    | refine x_sub_ rfl rfl rfl (wrap_i64 (by omega) (by omega)) rfl trivial ?_
    | refine x_sub_ rfl rfl rfl (wrap_u32 (by omega) (by omega)) rfl trivial ?_
    | refine x_add rfl rfl rfl (wrap_u32 (by omega) (by omega)) rfl trivial ?_
    | refine x_peqn rfl rfl rfl rfl trivial ?_
    | refine x_pnen rfl rfl rfl rfl trivial ?_
    | refine x_mul rfl rfl rfl (wrap_i64 (by omega) (by omega)) rfl trivial ?_
    | refine x_ibin rfl rfl rfl rfl rfl trivial ?_
    | refine x_neg_ rfl rfl (wrap_i64 (by omega) (by omega)) rfl trivial ?_
    | refine x_len rfl rfl (by assumption) rfl trivial ?_
    | refine x_pick_t rfl rfl rfl rfl trivial ?_
    | refine x_pick_f rfl rfl rfl rfl trivial ?_
    | refine x_not rfl rfl rfl trivial ?_
    | refine x_beq rfl rfl rfl rfl trivial ?_
    | refine x_bne rfl rfl rfl rfl trivial ?_
    | refine x_extract rfl rfl rfl rfl trivial ?_
    | refine x_nilCheck rfl rfl rfl trivial ?_
    | refine x_fieldAddr rfl rfl rfl rfl trivial ?_
    | refine x_skip trivial rfl rfl rfl ?_
    | refine x_indexAddr1 rfl rfl rfl (by assumption) (by omega) (by omega) rfl trivial ?_
    | refine x_indexAddr rfl rfl rfl (by assumption) (by omega) (by omega) rfl trivial ?_
    | refine x_nil ?_
    | refine cw_seq ?_
    | refine nw_seq ?_
    | refine nw_block ?_
    | refine cw_block ?_
    | refine cw_skip ?_
    | refine cw_region ?_
    | refine cw_exit rfl ?_
    | refine cw_true rfl ?_
    | refine cw_false rfl ?_)
  refine x_conv_int rfl rfl rfl trivial ?_
  rw [wrap_i64 (by omega) (by omega)]
  repeat (first
    | refine x_move rfl rfl rfl trivial ?_
    | refine x_assign rfl rfl rfl trivial ?_
    | refine x_add rfl rfl rfl (wrap_i64 (by omega) (by omega)) rfl trivial ?_
    | refine x_sub_ rfl rfl rfl (wrap_i64 (by omega) (by omega)) rfl trivial ?_
    | refine x_sub_ rfl rfl rfl (wrap_u32 (by omega) (by omega)) rfl trivial ?_
    | refine x_add rfl rfl rfl (wrap_u32 (by omega) (by omega)) rfl trivial ?_
    | refine x_peqn rfl rfl rfl rfl trivial ?_
    | refine x_pnen rfl rfl rfl rfl trivial ?_
    | refine x_mul rfl rfl rfl (wrap_i64 (by omega) (by omega)) rfl trivial ?_
    | refine x_ibin rfl rfl rfl rfl rfl trivial ?_
    | refine x_neg_ rfl rfl (wrap_i64 (by omega) (by omega)) rfl trivial ?_
    | refine x_len rfl rfl (by assumption) rfl trivial ?_
    | refine x_pick_t rfl rfl rfl rfl trivial ?_
    | refine x_pick_f rfl rfl rfl rfl trivial ?_
    | refine x_not rfl rfl rfl trivial ?_
    | refine x_beq rfl rfl rfl rfl trivial ?_
    | refine x_bne rfl rfl rfl rfl trivial ?_
    | refine x_extract rfl rfl rfl rfl trivial ?_
    | refine x_nilCheck rfl rfl rfl trivial ?_
    | refine x_fieldAddr rfl rfl rfl rfl trivial ?_
    | refine x_skip trivial rfl rfl rfl ?_
    | refine x_indexAddr1 rfl rfl rfl (by assumption) (by omega) (by omega) rfl trivial ?_
    | refine x_indexAddr rfl rfl rfl (by assumption) (by omega) (by omega) rfl trivial ?_
    | refine x_nil ?_
    | refine cw_seq ?_
    | refine nw_seq ?_
    | refine nw_block ?_
    | refine cw_block ?_
    | refine cw_skip ?_
    | refine cw_region ?_
    | refine cw_exit rfl ?_
    | refine cw_true rfl ?_
    | refine cw_false rfl ?_)
  refine x_load rfl rfl (hpmt (c0)) rfl trivial ?_
  repeat (first
    | refine x_move rfl rfl rfl trivial ?_
    | refine x_assign rfl rfl rfl trivial ?_
    | refine x_add rfl rfl rfl (wrap_i64 (by omega) (by omega)) rfl trivial ?_
    | refine x_sub_ rfl rfl rfl (wrap_i64 (by omega) (by omega)) rfl trivial ?_
    | refine x_sub_ rfl rfl rfl (wrap_u32 (by omega) (by omega)) rfl trivial ?_
    | refine x_add rfl rfl rfl (wrap_u32 (by omega) (by omega)) rfl trivial ?_
    | refine x_peqn rfl rfl rfl rfl trivial ?_
    | refine x_pnen rfl rfl rfl rfl trivial ?_
    | refine x_mul rfl rfl rfl (wrap_i64 (by omega) (by omega)) rfl trivial ?_
    | refine x_ibin rfl rfl rfl rfl rfl trivial ?_
    | refine x_neg_ rfl rfl (wrap_i64 (by omega) (by omega)) rfl trivial ?_
    | refine x_len rfl rfl (by assumption) rfl trivial ?_
    | refine x_pick_t rfl rfl rfl rfl trivial ?_
    | refine x_pick_f rfl rfl rfl rfl trivial ?_
    | refine x_not rfl rfl rfl trivial ?_
    | refine x_beq rfl rfl rfl rfl trivial ?_
    | refine x_bne rfl rfl rfl rfl trivial ?_
    | refine x_extract rfl rfl rfl rfl trivial ?_
    | refine x_nilCheck rfl rfl rfl trivial ?_
    | refine x_fieldAddr rfl rfl rfl rfl trivial ?_
    | refine x_skip trivial rfl rfl rfl ?_
    | refine x_indexAddr1 rfl rfl rfl (by assumption) (by omega) (by omega) rfl trivial ?_
    | refine x_indexAddr rfl rfl rfl (by assumption) (by omega) (by omega) rfl trivial ?_
    | refine x_nil ?_
    | refine cw_seq ?_
    | refine nw_seq ?_
    | refine nw_block ?_
    | refine cw_block ?_
    | refine cw_skip ?_
    | refine cw_region ?_
    | refine cw_exit rfl ?_
    | refine cw_true rfl ?_
    | refine cw_false rfl ?_)
  refine x_split 13 rfl (fun hl => ?_) (fun hl => ?_) <;> (try simp at hl)
  · obtain ⟨x, hx, hc⟩ := h4.rd.cel1 encB_len (tB_get (p := p) (h := h) (by omega))
    subst hx
    repeat (first
      | refine x_move rfl rfl rfl trivial ?_
      | refine x_assign rfl rfl rfl trivial ?_
      | refine x_add rfl rfl rfl (wrap_i64 (by omega) (by omega)) rfl trivial ?_
      | refine x_sub_ rfl rfl rfl (wrap_i64 (by omega) (by omega)) rfl trivial ?_
      | refine x_sub_ rfl rfl rfl (wrap_u32 (by omega) (by omega)) rfl trivial ?_
      | refine x_add rfl rfl rfl (wrap_u32 (by omega) (by omega)) rfl trivial ?_
      | refine x_peqn rfl rfl rfl rfl trivial ?_
      | refine x_pnen rfl rfl rfl rfl trivial ?_
      | refine x_mul rfl rfl rfl (wrap_i64 (by omega) (by omega)) rfl trivial ?_
      | refine x_ibin rfl rfl rfl rfl rfl trivial ?_
      | refine x_neg_ rfl rfl (wrap_i64 (by omega) (by omega)) rfl trivial ?_
      | refine x_len rfl rfl (by assumption) rfl trivial ?_
      | refine x_pick_t rfl rfl rfl rfl trivial ?_
      | refine x_pick_f rfl rfl rfl rfl trivial ?_
      | refine x_not rfl rfl rfl trivial ?_
      | refine x_beq rfl rfl rfl rfl trivial ?_
      | refine x_bne rfl rfl rfl rfl trivial ?_
      | refine x_extract rfl rfl rfl rfl trivial ?_
      | refine x_nilCheck rfl rfl rfl trivial ?_
      | refine x_fieldAddr rfl rfl rfl rfl trivial ?_
      | refine x_skip trivial rfl rfl rfl ?_
      | refine x_indexAddr1 rfl rfl rfl (by assumption) (by omega) (by omega) rfl trivial ?_
      | refine x_indexAddr rfl rfl rfl (by assumption) (by omega) (by omega) rfl trivial ?_
      | refine x_nil ?_
      | refine cw_seq ?_
      | refine nw_seq ?_
      | refine nw_block ?_
      | refine cw_block ?_
      | refine cw_skip ?_
      | refine cw_region ?_
      | refine cw_exit rfl ?_
      | refine cw_true rfl ?_
      | refine cw_false rfl ?_)
    refine x_load rfl rfl (hpmt (c1)) rfl trivial ?_
    repeat (first
      | refine x_move rfl rfl rfl trivial ?_
      | refine x_assign rfl rfl rfl trivial ?_
      | refine x_add rfl rfl rfl (wrap_i64 (by omega) (by omega)) rfl trivial ?_
      | refine x_sub_ rfl rfl rfl (wrap_i64 (by omega) (by omega)) rfl trivial ?_
      | refine x_sub_ rfl rfl rfl (wrap_u32 (by omega) (by omega)) rfl trivial ?_
      | refine x_add rfl rfl rfl (wrap_u32 (by omega) (by omega)) rfl trivial ?_
      | refine x_peqn rfl rfl rfl rfl trivial ?_
      | refine x_pnen rfl rfl rfl rfl trivial ?_
      | refine x_mul rfl rfl rfl (wrap_i64 (by omega) (by omega)) rfl trivial ?_
      | refine x_ibin rfl rfl rfl rfl rfl trivial ?_
      | refine x_neg_ rfl rfl (wrap_i64 (by omega) (by omega)) rfl trivial ?_
      | refine x_len rfl rfl (by assumption) rfl trivial ?_
      | refine x_pick_t rfl rfl rfl rfl trivial ?_
      | refine x_pick_f rfl rfl rfl rfl trivial ?_
      | refine x_not rfl rfl rfl trivial ?_
      | refine x_beq rfl rfl rfl rfl trivial ?_
      | refine x_bne rfl rfl rfl rfl trivial ?_
      | refine x_extract rfl rfl rfl rfl trivial ?_
      | refine x_nilCheck rfl rfl rfl trivial ?_
      | refine x_fieldAddr rfl rfl rfl rfl trivial ?_
      | refine x_skip trivial rfl rfl rfl ?_
      | refine x_indexAddr1 rfl rfl rfl (by assumption) (by omega) (by omega) rfl trivial ?_
      | refine x_indexAddr rfl rfl rfl (by assumption) (by omega) (by omega) rfl trivial ?_
      | refine x_nil ?_
      | refine cw_seq ?_
      | refine nw_seq ?_
      | refine nw_block ?_
      | refine cw_block ?_
      | refine cw_skip ?_
      | refine cw_region ?_
      | refine cw_exit rfl ?_
      | refine cw_true rfl ?_
      | refine cw_false rfl ?_)
    refine x_load rfl rfl (hpmt (hc)) rfl trivial ?_
    repeat (first
      | refine x_move rfl rfl rfl trivial ?_
      | refine x_assign rfl rfl rfl trivial ?_
      | refine x_add rfl rfl rfl (wrap_i64 (by omega) (by omega)) rfl trivial ?_
      | refine x_sub_ rfl rfl rfl (wrap_i64 (by omega) (by omega)) rfl trivial ?_
      | refine x_sub_ rfl rfl rfl (wrap_u32 (by omega) (by omega)) rfl trivial ?_
      | refine x_add rfl rfl rfl (wrap_u32 (by omega) (by omega)) rfl trivial ?_
      | refine x_peqn rfl rfl rfl rfl trivial ?_
      | refine x_pnen rfl rfl rfl rfl trivial ?_
      | refine x_mul rfl rfl rfl (wrap_i64 (by omega) (by omega)) rfl trivial ?_
      | refine x_ibin rfl rfl rfl rfl rfl trivial ?_
      | refine x_neg_ rfl rfl (wrap_i64 (by omega) (by omega)) rfl trivial ?_
      | refine x_len rfl rfl (by assumption) rfl trivial ?_
      | refine x_pick_t rfl rfl rfl rfl trivial ?_
      | refine x_pick_f rfl rfl rfl rfl trivial ?_
      | refine x_not rfl rfl rfl trivial ?_
      | refine x_beq rfl rfl rfl rfl trivial ?_
      | refine x_bne rfl rfl rfl rfl trivial ?_
      | refine x_extract rfl rfl rfl rfl trivial ?_
      | refine x_nilCheck rfl rfl rfl trivial ?_
      | refine x_fieldAddr rfl rfl rfl rfl trivial ?_
      | refine x_skip trivial rfl rfl rfl ?_
      | refine x_indexAddr1 rfl rfl rfl (by assumption) (by omega) (by omega) rfl trivial ?_
      | refine x_indexAddr rfl rfl rfl (by assumption) (by omega) (by omega) rfl trivial ?_
      | refine x_nil ?_
      | refine cw_seq ?_
      | refine nw_seq ?_
      | refine nw_block ?_
      | refine cw_block ?_
      | refine cw_skip ?_
      | refine cw_region ?_
      | refine cw_exit rfl ?_
      | refine cw_true rfl ?_
      | refine cw_false rfl ?_)
    exact cw_ret1 rfl rfl ⟨rfl, rfl⟩
  · repeat (first
      | refine x_move rfl rfl rfl trivial ?_
      | refine x_assign rfl rfl rfl trivial ?_
      | refine x_add rfl rfl rfl (wrap_i64 (by omega) (by omega)) rfl trivial ?_
      | refine x_sub_ rfl rfl rfl (wrap_i64 (by omega) (by omega)) rfl trivial ?_
      | refine x_sub_ rfl rfl rfl (wrap_u32 (by omega) (by omega)) rfl trivial ?_
      | refine x_add rfl rfl rfl (wrap_u32 (by omega) (by omega)) rfl trivial ?_
      | refine x_peqn rfl rfl rfl rfl trivial ?_
      | refine x_pnen rfl rfl rfl rfl trivial ?_
      | refine x_mul rfl rfl rfl (wrap_i64 (by omega) (by omega)) rfl trivial ?_
      | refine x_ibin rfl rfl rfl rfl rfl trivial ?_
      | refine x_neg_ rfl rfl (wrap_i64 (by omega) (by omega)) rfl trivial ?_
      | refine x_len rfl rfl (by assumption) rfl trivial ?_
      | refine x_pick_t rfl rfl rfl rfl trivial ?_
      | refine x_pick_f rfl rfl rfl rfl trivial ?_
      | refine x_not rfl rfl rfl trivial ?_
      | refine x_beq rfl rfl rfl rfl trivial ?_
      | refine x_bne rfl rfl rfl rfl trivial ?_
      | refine x_extract rfl rfl rfl rfl trivial ?_
      | refine x_nilCheck rfl rfl rfl trivial ?_
      | refine x_fieldAddr rfl rfl rfl rfl trivial ?_
      | refine x_skip trivial rfl rfl rfl ?_
      | refine x_indexAddr1 rfl rfl rfl (by assumption) (by omega) (by omega) rfl trivial ?_
      | refine x_indexAddr rfl rfl rfl (by assumption) (by omega) (by omega) rfl trivial ?_
      | refine x_nil ?_
      | refine cw_seq ?_
      | refine nw_seq ?_
      | refine nw_block ?_
      | refine cw_block ?_
      | refine cw_skip ?_
      | refine cw_region ?_
      | refine cw_exit rfl ?_
      | refine cw_true rfl ?_
      | refine cw_false rfl ?_)
    rw [hasP_lt (by omega)]
    exact cw_ret1 rfl rfl ⟨rfl, rfl⟩
theorem ref6_Live {K : Role} {b : Nat} {p : Pl} {H : Heap} (hS : Sq K H b p) (hl : p.tx.length ≤ 1000000) (hb : p.back.length ≤ 1000000) : Ret Try.prog 23 [ptr b 0] H (fun v H' => H = H' ∧ v = .int .i64 (liveP p)) := by
  obtain ⟨vs, vt, vb, h1, h2, h3, h4, h5, h6, h7⟩ := hS.row
  have sS := h2.sl
  have sB := h6.sl
  have e1 : (tS p).length = p.tx.length + 1 := by simp [tS]
  rw [e1] at sS
  have c0 : cel H b 0 = some vs := by rw [h1.cel]; rfl
  have c2 : cel H b 2 = some vb := by rw [h1.cel]; rfl
  refine ret_of Try.func23 rfl rfl rfl rfl ?_
  intro w0
  repeat (first
    | refine x_move rfl rfl rfl trivial ?_
    | refine x_assign rfl rfl rfl trivial ?_
    | refine x_add rfl rfl rfl (wrap_i64 (by omega) (by omega)) rfl trivial ?_
    | refine x_sub_ rfl rfl rfl (wrap_i64 (by omega) (by omega)) rfl trivial ?_
    | refine x_sub_ rfl rfl rfl (wrap_u32 (by omega) (by omega)) rfl trivial ?_
    | refine x_add rfl rfl rfl (wrap_u32 (by omega) (by omega)) rfl trivial ?_
    | refine x_peqn rfl rfl rfl rfl trivial ?_
    | refine x_pnen rfl rfl rfl rfl trivial ?_
    | refine x_mul rfl rfl rfl (wrap_i64 (by omega) (by omega)) rfl trivial ?_
    | refine x_ibin rfl rfl rfl rfl rfl trivial ?_
    | refine x_neg_ rfl rfl (wrap_i64 (by omega) (by omega)) rfl trivial ?_
    | refine x_len rfl rfl (by assumption) rfl trivial ?_
    | refine x_pick_t rfl rfl rfl rfl trivial ?_
    | refine x_pick_f rfl rfl rfl rfl trivial ?_
    | refine x_not rfl rfl rfl trivial ?_
    | refine x_beq rfl rfl rfl rfl trivial ?_
    | refine x_bne rfl rfl rfl rfl trivial ?_
    | refine x_extract rfl rfl rfl rfl trivial ?_
    | refine x_nilCheck rfl rfl rfl trivial ?_
    | refine x_fieldAddr rfl rfl rfl rfl trivial ?_
    | refine x_skip trivial rfl rfl rfl ?_
    | refine x_indexAddr1 rfl rfl rfl (by assumption) (by omega) (by omega) rfl trivial ?_
    | refine x_indexAddr rfl rfl rfl (by assumption) (by omega) (by omega) rfl trivial ?_
    | refine x_nil ?_
    | refine cw_seq ?_
    | refine nw_seq ?_
    | refine nw_block ?_
    | refine cw_block ?_
    | refine cw_skip ?_
    | refine cw_region ?_
    | refine cw_exit rfl ?_
    | refine cw_true rfl ?_
    | refine cw_false rfl ?_)
  refine cw_quiet mixed (by kernel_rfl) ?_
  repeat (first
    | refine x_move rfl rfl rfl trivial ?_
    | refine x_assign rfl rfl rfl trivial ?_
    | refine x_add rfl rfl rfl (wrap_i64 (by omega) (by omega)) rfl trivial ?_
    | refine x_sub_ rfl rfl rfl (wrap_i64 (by omega) (by omega)) rfl trivial ?_
    | refine x_sub_ rfl rfl rfl (wrap_u32 (by omega) (by omega)) rfl trivial ?_
    | refine x_add rfl rfl rfl (wrap_u32 (by omega) (by omega)) rfl trivial ?_
    | refine x_peqn rfl rfl rfl rfl trivial ?_
    | refine x_pnen rfl rfl rfl rfl trivial ?_
    | refine x_mul rfl rfl rfl (wrap_i64 (by omega) (by omega)) rfl trivial ?_
    | refine x_ibin rfl rfl rfl rfl rfl trivial ?_
    | refine x_neg_ rfl rfl (wrap_i64 (by omega) (by omega)) rfl trivial ?_
    | refine x_len rfl rfl (by assumption) rfl trivial ?_
    | refine x_pick_t rfl rfl rfl rfl trivial ?_
    | refine x_pick_f rfl rfl rfl rfl trivial ?_
    | refine x_not rfl rfl rfl trivial ?_
    | refine x_beq rfl rfl rfl rfl trivial ?_
    | refine x_bne rfl rfl rfl rfl trivial ?_
    | refine x_extract rfl rfl rfl rfl trivial ?_
    | refine x_nilCheck rfl rfl rfl trivial ?_
    | refine x_fieldAddr rfl rfl rfl rfl trivial ?_
    | refine x_skip trivial rfl rfl rfl ?_
    | refine x_indexAddr1 rfl rfl rfl (by assumption) (by omega) (by omega) rfl trivial ?_
    | refine x_indexAddr rfl rfl rfl (by assumption) (by omega) (by omega) rfl trivial ?_
    | refine x_nil ?_
    | refine cw_seq ?_
    | refine nw_seq ?_
    | refine nw_block ?_
    | refine cw_block ?_
    | refine cw_skip ?_
    | refine cw_region ?_
    | refine cw_exit rfl ?_
    | refine cw_true rfl ?_
    | refine cw_false rfl ?_)
  refine x_load rfl rfl (hpmt (c0)) rfl trivial ?_
  repeat (first
    | refine x_move rfl rfl rfl trivial ?_
    | refine x_assign rfl rfl rfl trivial ?_
    | refine x_add rfl rfl rfl (wrap_i64 (by omega) (by omega)) rfl trivial ?_
    | refine x_sub_ rfl rfl rfl (wrap_i64 (by omega) (by omega)) rfl trivial ?_
    | refine x_sub_ rfl rfl rfl (wrap_u32 (by omega) (by omega)) rfl trivial ?_
    | refine x_add rfl rfl rfl (wrap_u32 (by omega) (by omega)) rfl trivial ?_
    | refine x_peqn rfl rfl rfl rfl trivial ?_
    | refine x_pnen rfl rfl rfl rfl trivial ?_
    | refine x_mul rfl rfl rfl (wrap_i64 (by omega) (by omega)) rfl trivial ?_
    | refine x_ibin rfl rfl rfl rfl rfl trivial ?_
    | refine x_neg_ rfl rfl (wrap_i64 (by omega) (by omega)) rfl trivial ?_
    | refine x_len rfl rfl (by assumption) rfl trivial ?_
    | refine x_pick_t rfl rfl rfl rfl trivial ?_
    | refine x_pick_f rfl rfl rfl rfl trivial ?_
    | refine x_not rfl rfl rfl trivial ?_
    | refine x_beq rfl rfl rfl rfl trivial ?_
    | refine x_bne rfl rfl rfl rfl trivial ?_
    | refine x_extract rfl rfl rfl rfl trivial ?_
    | refine x_nilCheck rfl rfl rfl trivial ?_
    | refine x_fieldAddr rfl rfl rfl rfl trivial ?_
    | refine x_skip trivial rfl rfl rfl ?_
    | refine x_indexAddr1 rfl rfl rfl (by assumption) (by omega) (by omega) rfl trivial ?_
    | refine x_indexAddr rfl rfl rfl (by assumption) (by omega) (by omega) rfl trivial ?_
    | refine x_nil ?_
    | refine cw_seq ?_
    | refine nw_seq ?_
    | refine nw_block ?_
    | refine cw_block ?_
    | refine cw_skip ?_
    | refine cw_region ?_
    | refine cw_exit rfl ?_
    | refine cw_true rfl ?_
    | refine cw_false rfl ?_)
  refine x_load rfl rfl (hpmt (c2)) rfl trivial ?_
  repeat (first
    | refine x_move rfl rfl rfl trivial ?_
    | refine x_assign rfl rfl rfl trivial ?_
    | refine x_add rfl rfl rfl (wrap_i64 (by omega) (by omega)) rfl trivial ?_
    | refine x_sub_ rfl rfl rfl (wrap_i64 (by omega) (by omega)) rfl trivial ?_
    | refine x_sub_ rfl rfl rfl (wrap_u32 (by omega) (by omega)) rfl trivial ?_
    | refine x_add rfl rfl rfl (wrap_u32 (by omega) (by omega)) rfl trivial ?_
    | refine x_peqn rfl rfl rfl rfl trivial ?_
    | refine x_pnen rfl rfl rfl rfl trivial ?_
    | refine x_mul rfl rfl rfl (wrap_i64 (by omega) (by omega)) rfl trivial ?_
    | refine x_ibin rfl rfl rfl rfl rfl trivial ?_
    | refine x_neg_ rfl rfl (wrap_i64 (by omega) (by omega)) rfl trivial ?_
    | refine x_len rfl rfl (by assumption) rfl trivial ?_
    | refine x_pick_t rfl rfl rfl rfl trivial ?_
    | refine x_pick_f rfl rfl rfl rfl trivial ?_
    | refine x_not rfl rfl rfl trivial ?_
    | refine x_beq rfl rfl rfl rfl trivial ?_
    | refine x_bne rfl rfl rfl rfl trivial ?_
    | refine x_extract rfl rfl rfl rfl trivial ?_
    | refine x_nilCheck rfl rfl rfl trivial ?_
    | refine x_fieldAddr rfl rfl rfl rfl trivial ?_
    | refine x_skip trivial rfl rfl rfl ?_
    | refine x_indexAddr1 rfl rfl rfl (by assumption) (by omega) (by omega) rfl trivial ?_
    | refine x_indexAddr rfl rfl rfl (by assumption) (by omega) (by omega) rfl trivial ?_
    | refine x_nil ?_
    | refine cw_seq ?_
    | refine nw_seq ?_
    | refine nw_block ?_
    | refine cw_block ?_
    | refine cw_skip ?_
    | refine cw_region ?_
    | refine cw_exit rfl ?_
    | refine cw_true rfl ?_
    | refine cw_false rfl ?_)
  refine cw_ret1 rfl rfl ⟨rfl, ?_⟩
  congr 1
  unfold liveP
  omega
abbrev MutQ (K : Role) : Nat → Prop := fun c => K c = 1 ∨ K c = 2 ∨ K c = 3 ∨ K c = 5
theorem mutQ_ne {K : Role} : ∀ x, MutQ K x → K x ≠ 0 := fun x h => by rcases h with h | h | h | h <;> omega
theorem bss_keep {K : Role} {S : Nat → Prop} {H H' : Heap} {v : Value} {l : List Bytes} (h : Rw encS 1 (BsR K H) H' v l) (k : Keep S H H') (hS : ∀ b, K b = 4 → ¬ S b) : Rw encS 1 (BsR K H') H' v l :=
  h.mono fun _ _ hxy => hxy.keep k hS (fun _ h => h)
theorem tS_set (p : Pl) (h : Nat) (m u : Int) (l : Bytes) (k : Bool) (bk : List Nat) (hh : 1 ≤ h) : tS ⟨m, u, p.tx.set (h - 1) (l, k), bk⟩ = (tS p).set h l := by
  obtain ⟨h, rfl⟩ : ∃ m, h = m + 1 := ⟨h - 1, by omega⟩
  simp [tS, List.map_set]
theorem tB_set (p : Pl) (h : Nat) (m u : Int) (l : Bytes) (k : Bool) (bk : List Nat) (hh : 1 ≤ h) : tB ⟨m, u, p.tx.set (h - 1) (l, k), bk⟩ = (tB p).set h k := by
  obtain ⟨h, rfl⟩ : ∃ m, h = m + 1 := ⟨h - 1, by omega⟩
  simp [tB, List.map_set]
theorem tB_same {p : Pl} {h : Nat} (hh : hasP p h = true) (l : Bytes) (m u : Int) (bk : List Nat) : tB ⟨m, u, p.tx.set (h - 1) (l, true), bk⟩ = tB p := by
  obtain ⟨h1, b, h2⟩ := hasP_iff.1 hh
  unfold tB
  simp only [List.map_set]
  congr 1
  apply List.ext_getElem?
  intro i
  by_cases e : h - 1 = i
  · subst e
    have := (List.getElem?_eq_some_iff.1 h2).1
    rw [List.getElem?_set_self (by simpa using this), List.getElem?_map, h2]
    rfl
  · rw [List.getElem?_set_ne e]

theorem ref6_Cut {K : Role} {b h : Nat} {n : Int} {p : Pl} {H : Heap} (hS : Sq K H b p) (hw : p.Wf) (hh : h < 4294967296) (hl : p.tx.length ≤ 1000000) :
    Ret Try.prog 15 [ptr b 0, .int .u32 (h : Nat), .int .i64 n] H (fun v H' => v = .int .i64 (cutP p h n).1 ∧ Keep (MutQ K) H H' ∧ ∃ K', K.Ext K' H H' ∧ Sq K' H' b (cutP p h n).2) := by
  have hu := hw.used_le
  obtain ⟨vs, vt, vb, h1, h2, h3, h4, h5, h6, h7⟩ := hS.row
  have sS := h2.sl
  have sT := h4.sl
  have e1 : (tS p).length = p.tx.length + 1 := by simp [tS]
  have e2 : (tB p).length = p.tx.length + 1 := by simp [tB]
  rw [e1] at sS
  rw [e2] at sT
  have c0 : cel H b 0 = some vs := by rw [h1.cel]; rfl
  have c1 : cel H b 1 = some vt := by rw [h1.cel]; rfl
  have c2 : cel H b 2 = some vb := by rw [h1.cel]; rfl
  have c4 : cel H b 4 = some (.int .i64 p.used) := by rw [h1.cel]; rfl
  have k1 := hS.one
  refine ret_of Try.func15 rfl rfl rfl rfl ?_
  intro w0
  repeat (first
    | refine x_move rfl rfl rfl trivial ?_
    | refine x_assign rfl rfl rfl trivial ?_
    | refine x_add rfl rfl rfl (wrap_i64 (by omega) (by omega)) rfl trivial ?_
    | refine x_sub_ rfl rfl rfl (wrap_i64 (by omega) (by omega)) rfl trivial ?_
    | refine x_sub_ rfl rfl rfl (wrap_u32 (by omega) (by omega)) rfl trivial ?_
    | refine x_add rfl rfl rfl (wrap_u32 (by omega) (by omega)) rfl trivial ?_
    | refine x_peqn rfl rfl rfl rfl trivial ?_
    | refine x_pnen rfl rfl rfl rfl trivial ?_
    | refine x_mul rfl rfl rfl (wrap_i64 (by omega) (by omega)) rfl trivial ?_
    | refine x_ibin rfl rfl rfl rfl rfl trivial ?_
    | refine x_neg_ rfl rfl (wrap_i64 (by omega) (by omega)) rfl trivial ?_
    | refine x_len rfl rfl (by assumption) rfl trivial ?_
    | refine x_pick_t rfl rfl rfl rfl trivial ?_
    | refine x_pick_f rfl rfl rfl rfl trivial ?_
    | refine x_not rfl rfl rfl trivial ?_
    | refine x_beq rfl rfl rfl rfl trivial ?_
    | refine x_bne rfl rfl rfl rfl trivial ?_
    | refine x_extract rfl rfl rfl rfl trivial ?_
    | refine x_nilCheck rfl rfl rfl trivial ?_
    | refine x_fieldAddr rfl rfl rfl rfl trivial ?_
    | refine x_skip trivial rfl rfl rfl ?_
    | refine x_indexAddr1 rfl rfl rfl (by assumption) (by omega) (by omega) rfl trivial ?_
    | refine x_indexAddr rfl rfl rfl (by assumption) (by omega) (by omega) rfl trivial ?_
    | refine x_nil ?_
    | refine cw_seq ?_
    | refine nw_seq ?_
    | refine nw_block ?_
    | refine cw_block ?_
    | refine cw_skip ?_
    | refine cw_region ?_
    | refine cw_exit rfl ?_
    | refine cw_true rfl ?_
    | refine cw_false rfl ?_)
  refine x_call rfl rfl rfl trivial (ref6_Has hS hh) ?_
  rintro _ _ ⟨rfl, rfl⟩
  refine ⟨trivial, ?_⟩
  repeat (first
    | refine x_move rfl rfl rfl trivial ?_
    | refine x_assign rfl rfl rfl trivial ?_
    | refine x_add rfl rfl rfl (wrap_i64 (by omega) (by omega)) rfl trivial ?_
    | refine x_sub_ rfl rfl rfl (wrap_i64 (by omega) (by omega)) rfl trivial ?_
    | refine x_sub_ rfl rfl rfl (wrap_u32 (by omega) (by omega)) rfl trivial ?_
    | refine x_add rfl rfl rfl (wrap_u32 (by omega) (by omega)) rfl trivial ?_
    | refine x_peqn rfl rfl rfl rfl trivial ?_
    | refine x_pnen rfl rfl rfl rfl trivial ?_
    | refine x_mul rfl rfl rfl (wrap_i64 (by omega) (by omega)) rfl trivial ?_
    | refine x_ibin rfl rfl rfl rfl rfl trivial ?_
    | refine x_neg_ rfl rfl (wrap_i64 (by omega) (by omega)) rfl trivial ?_
    | refine x_len rfl rfl (by assumption) rfl trivial ?_
    | refine x_pick_t rfl rfl rfl rfl trivial ?_
    | refine x_pick_f rfl rfl rfl rfl trivial ?_
    | refine x_not rfl rfl rfl trivial ?_
    | refine x_beq rfl rfl rfl rfl trivial ?_
    | refine x_bne rfl rfl rfl rfl trivial ?_
    | refine x_extract rfl rfl rfl rfl trivial ?_
    | refine x_nilCheck rfl rfl rfl trivial ?_
    | refine x_fieldAddr rfl rfl rfl rfl trivial ?_
    | refine x_skip trivial rfl rfl rfl ?_
    | refine x_indexAddr1 rfl rfl rfl (by assumption) (by omega) (by omega) rfl trivial ?_
    | refine x_indexAddr rfl rfl rfl (by assumption) (by omega) (by omega) rfl trivial ?_
    | refine x_nil ?_
    | refine cw_seq ?_
    | refine nw_seq ?_
    | refine nw_block ?_
    | refine cw_block ?_
    | refine cw_skip ?_
    | refine cw_region ?_
    | refine cw_exit rfl ?_
    | refine cw_true rfl ?_
    | refine cw_false rfl ?_)
  cases h0 : hasP p h with
  | false =>
    have e : cutP p h n = (5, p) := by unfold cutP; rw [if_pos h0]
    rw [e]
    repeat (first
      | refine x_move rfl rfl rfl trivial ?_
      | refine x_assign rfl rfl rfl trivial ?_
      | refine x_add rfl rfl rfl (wrap_i64 (by omega) (by omega)) rfl trivial ?_
      | refine x_sub_ rfl rfl rfl (wrap_i64 (by omega) (by omega)) rfl trivial ?_
      | refine x_sub_ rfl rfl rfl (wrap_u32 (by omega) (by omega)) rfl trivial ?_
      | refine x_add rfl rfl rfl (wrap_u32 (by omega) (by omega)) rfl trivial ?_
      | refine x_peqn rfl rfl rfl rfl trivial ?_
      | refine x_pnen rfl rfl rfl rfl trivial ?_
      | refine x_mul rfl rfl rfl (wrap_i64 (by omega) (by omega)) rfl trivial ?_
      | refine x_ibin rfl rfl rfl rfl rfl trivial ?_
      | refine x_neg_ rfl rfl (wrap_i64 (by omega) (by omega)) rfl trivial ?_
      | refine x_len rfl rfl (by assumption) rfl trivial ?_
      | refine x_pick_t rfl rfl rfl rfl trivial ?_
      | refine x_pick_f rfl rfl rfl rfl trivial ?_
      | refine x_not rfl rfl rfl trivial ?_
      | refine x_beq rfl rfl rfl rfl trivial ?_
      | refine x_bne rfl rfl rfl rfl trivial ?_
      | refine x_extract rfl rfl rfl rfl trivial ?_
      | refine x_nilCheck rfl rfl rfl trivial ?_
      | refine x_fieldAddr rfl rfl rfl rfl trivial ?_
      | refine x_skip trivial rfl rfl rfl ?_
      | refine x_indexAddr1 rfl rfl rfl (by assumption) (by omega) (by omega) rfl trivial ?_
      | refine x_indexAddr rfl rfl rfl (by assumption) (by omega) (by omega) rfl trivial ?_
      | refine x_nil ?_
      | refine cw_seq ?_
      | refine nw_seq ?_
      | refine nw_block ?_
      | refine cw_block ?_
      | refine cw_skip ?_
      | refine cw_region ?_
      | refine cw_exit rfl ?_
      | refine cw_true rfl ?_
      | refine cw_false rfl ?_)
    exact cw_ret1 rfl rfl ⟨rfl, Keep.refl _ _, K, Role.Ext.refl _ _, hS⟩
  | true =>
    obtain ⟨g1, bs, g2⟩ := hasP_iff.1 h0
    have hs : strP p h = bs := by unfold strP; rw [g2]
    have hlt := (List.getElem?_eq_some_iff.1 g2).1
    have gS := tS_get h0
    rw [hs] at gS
    obtain ⟨r, hB, hr, hx⟩ := h2.put1 (j := h) (k := 0) encS_len (by omega) (by rw [e1]; omega)
    obtain ⟨x, hx, hc, hput⟩ := hx _ gS
    have hc0 := hc 0 (by omega)
    rw [Nat.mul_one, Nat.add_zero] at hc0 hr
    have sX := hx.1.sl
    have cX := sX.cap
    have hle := txSum_le g2
    have hwu := hw.used
    simp only at hle
    repeat (first
      | refine x_move rfl rfl rfl trivial ?_
      | refine x_assign rfl rfl rfl trivial ?_
      | refine x_add rfl rfl rfl (wrap_i64 (by omega) (by omega)) rfl trivial ?_
      | refine x_sub_ rfl rfl rfl (wrap_i64 (by omega) (by omega)) rfl trivial ?_
      | refine x_sub_ rfl rfl rfl (wrap_u32 (by omega) (by omega)) rfl trivial ?_
      | refine x_add rfl rfl rfl (wrap_u32 (by omega) (by omega)) rfl trivial ?_
      | refine x_peqn rfl rfl rfl rfl trivial ?_
      | refine x_pnen rfl rfl rfl rfl trivial ?_
      | refine x_mul rfl rfl rfl (wrap_i64 (by omega) (by omega)) rfl trivial ?_
      | refine x_ibin rfl rfl rfl rfl rfl trivial ?_
      | refine x_neg_ rfl rfl (wrap_i64 (by omega) (by omega)) rfl trivial ?_
      | refine x_len rfl rfl (by assumption) rfl trivial ?_
      | refine x_pick_t rfl rfl rfl rfl trivial ?_
      | refine x_pick_f rfl rfl rfl rfl trivial ?_
      | refine x_not rfl rfl rfl trivial ?_
      | refine x_beq rfl rfl rfl rfl trivial ?_
      | refine x_bne rfl rfl rfl rfl trivial ?_
      | refine x_extract rfl rfl rfl rfl trivial ?_
      | refine x_nilCheck rfl rfl rfl trivial ?_
      | refine x_fieldAddr rfl rfl rfl rfl trivial ?_
      | refine x_skip trivial rfl rfl rfl ?_
      | refine x_indexAddr1 rfl rfl rfl (by assumption) (by omega) (by omega) rfl trivial ?_
      | refine x_indexAddr rfl rfl rfl (by assumption) (by omega) (by omega) rfl trivial ?_
      | refine x_nil ?_
      | refine cw_seq ?_
      | refine nw_seq ?_
      | refine nw_block ?_
      | refine cw_block ?_
      | refine cw_skip ?_
      | refine cw_region ?_
      | refine cw_exit rfl ?_
      | refine cw_true rfl ?_
      | refine cw_false rfl ?_)
    refine x_split 15 rfl (fun hn => ?_) (fun hn => ?_) <;> (try simp at hn)
    · have e : cutP p h n = (2, p) := by unfold cutP; rw [if_neg (by rw [h0]; simp), if_pos (.inl hn)]
      rw [e]
      repeat (first
        | refine x_move rfl rfl rfl trivial ?_
        | refine x_assign rfl rfl rfl trivial ?_
        | refine x_add rfl rfl rfl (wrap_i64 (by omega) (by omega)) rfl trivial ?_
        | refine x_sub_ rfl rfl rfl (wrap_i64 (by omega) (by omega)) rfl trivial ?_
        | refine x_sub_ rfl rfl rfl (wrap_u32 (by omega) (by omega)) rfl trivial ?_
        | refine x_add rfl rfl rfl (wrap_u32 (by omega) (by omega)) rfl trivial ?_
        | refine x_peqn rfl rfl rfl rfl trivial ?_
        | refine x_pnen rfl rfl rfl rfl trivial ?_
        | refine x_mul rfl rfl rfl (wrap_i64 (by omega) (by omega)) rfl trivial ?_
        | refine x_ibin rfl rfl rfl rfl rfl trivial ?_
        | refine x_neg_ rfl rfl (wrap_i64 (by omega) (by omega)) rfl trivial ?_
        | refine x_len rfl rfl (by assumption) rfl trivial ?_
        | refine x_pick_t rfl rfl rfl rfl trivial ?_
        | refine x_pick_f rfl rfl rfl rfl trivial ?_
        | refine x_not rfl rfl rfl trivial ?_
        | refine x_beq rfl rfl rfl rfl trivial ?_
        | refine x_bne rfl rfl rfl rfl trivial ?_
        | refine x_extract rfl rfl rfl rfl trivial ?_
        | refine x_nilCheck rfl rfl rfl trivial ?_
        | refine x_fieldAddr rfl rfl rfl rfl trivial ?_
        | refine x_skip trivial rfl rfl rfl ?_
        | refine x_indexAddr1 rfl rfl rfl (by assumption) (by omega) (by omega) rfl trivial ?_
        | refine x_indexAddr rfl rfl rfl (by assumption) (by omega) (by omega) rfl trivial ?_
        | refine x_nil ?_
        | refine cw_seq ?_
        | refine nw_seq ?_
        | refine nw_block ?_
        | refine cw_block ?_
        | refine cw_skip ?_
        | refine cw_region ?_
        | refine cw_exit rfl ?_
        | refine cw_true rfl ?_
        | refine cw_false rfl ?_)
      exact cw_ret1 rfl rfl ⟨rfl, Keep.refl _ _, K, Role.Ext.refl _ _, hS⟩
    · repeat (first
        | refine x_move rfl rfl rfl trivial ?_
        | refine x_assign rfl rfl rfl trivial ?_
        | refine x_add rfl rfl rfl (wrap_i64 (by omega) (by omega)) rfl trivial ?_
        | refine x_sub_ rfl rfl rfl (wrap_i64 (by omega) (by omega)) rfl trivial ?_
        | refine x_sub_ rfl rfl rfl (wrap_u32 (by omega) (by omega)) rfl trivial ?_
        | refine x_add rfl rfl rfl (wrap_u32 (by omega) (by omega)) rfl trivial ?_
        | refine x_peqn rfl rfl rfl rfl trivial ?_
        | refine x_pnen rfl rfl rfl rfl trivial ?_
        | refine x_mul rfl rfl rfl (wrap_i64 (by omega) (by omega)) rfl trivial ?_
        | refine x_ibin rfl rfl rfl rfl rfl trivial ?_
        | refine x_neg_ rfl rfl (wrap_i64 (by omega) (by omega)) rfl trivial ?_
        | refine x_len rfl rfl (by assumption) rfl trivial ?_
        | refine x_pick_t rfl rfl rfl rfl trivial ?_
        | refine x_pick_f rfl rfl rfl rfl trivial ?_
        | refine x_not rfl rfl rfl trivial ?_
        | refine x_beq rfl rfl rfl rfl trivial ?_
        | refine x_bne rfl rfl rfl rfl trivial ?_
        | refine x_extract rfl rfl rfl rfl trivial ?_
        | refine x_nilCheck rfl rfl rfl trivial ?_
        | refine x_fieldAddr rfl rfl rfl rfl trivial ?_
        | refine x_skip trivial rfl rfl rfl ?_
        | refine x_indexAddr1 rfl rfl rfl (by assumption) (by omega) (by omega) rfl trivial ?_
        | refine x_indexAddr rfl rfl rfl (by assumption) (by omega) (by omega) rfl trivial ?_
        | refine x_nil ?_
        | refine cw_seq ?_
        | refine nw_seq ?_
        | refine nw_block ?_
        | refine cw_block ?_
        | refine cw_skip ?_
        | refine cw_region ?_
        | refine cw_exit rfl ?_
        | refine cw_true rfl ?_
        | refine cw_false rfl ?_)
      refine x_load rfl rfl (hpmt (c0)) rfl trivial ?_
      repeat (first
        | refine x_move rfl rfl rfl trivial ?_
        | refine x_assign rfl rfl rfl trivial ?_
        | refine x_add rfl rfl rfl (wrap_i64 (by omega) (by omega)) rfl trivial ?_
        | refine x_sub_ rfl rfl rfl (wrap_i64 (by omega) (by omega)) rfl trivial ?_
        | refine x_sub_ rfl rfl rfl (wrap_u32 (by omega) (by omega)) rfl trivial ?_
        | refine x_add rfl rfl rfl (wrap_u32 (by omega) (by omega)) rfl trivial ?_
        | refine x_peqn rfl rfl rfl rfl trivial ?_
        | refine x_pnen rfl rfl rfl rfl trivial ?_
        | refine x_mul rfl rfl rfl (wrap_i64 (by omega) (by omega)) rfl trivial ?_
        | refine x_ibin rfl rfl rfl rfl rfl trivial ?_
        | refine x_neg_ rfl rfl (wrap_i64 (by omega) (by omega)) rfl trivial ?_
        | refine x_len rfl rfl (by assumption) rfl trivial ?_
        | refine x_pick_t rfl rfl rfl rfl trivial ?_
        | refine x_pick_f rfl rfl rfl rfl trivial ?_
        | refine x_not rfl rfl rfl trivial ?_
        | refine x_beq rfl rfl rfl rfl trivial ?_
        | refine x_bne rfl rfl rfl rfl trivial ?_
        | refine x_extract rfl rfl rfl rfl trivial ?_
        | refine x_nilCheck rfl rfl rfl trivial ?_
        | refine x_fieldAddr rfl rfl rfl rfl trivial ?_
        | refine x_skip trivial rfl rfl rfl ?_
        | refine x_indexAddr1 rfl rfl rfl (by assumption) (by omega) (by omega) rfl trivial ?_
        | refine x_indexAddr rfl rfl rfl (by assumption) (by omega) (by omega) rfl trivial ?_
        | refine x_nil ?_
        | refine cw_seq ?_
        | refine nw_seq ?_
        | refine nw_block ?_
        | refine cw_block ?_
        | refine cw_skip ?_
        | refine cw_region ?_
        | refine cw_exit rfl ?_
        | refine cw_true rfl ?_
        | refine cw_false rfl ?_)
      refine x_load rfl rfl (hpmt (hc0)) rfl trivial ?_
      repeat (first
        | refine x_move rfl rfl rfl trivial ?_
        | refine x_assign rfl rfl rfl trivial ?_
        | refine x_add rfl rfl rfl (wrap_i64 (by omega) (by omega)) rfl trivial ?_
        | refine x_sub_ rfl rfl rfl (wrap_i64 (by omega) (by omega)) rfl trivial ?_
        | refine x_sub_ rfl rfl rfl (wrap_u32 (by omega) (by omega)) rfl trivial ?_
        | refine x_add rfl rfl rfl (wrap_u32 (by omega) (by omega)) rfl trivial ?_
        | refine x_peqn rfl rfl rfl rfl trivial ?_
        | refine x_pnen rfl rfl rfl rfl trivial ?_
        | refine x_mul rfl rfl rfl (wrap_i64 (by omega) (by omega)) rfl trivial ?_
        | refine x_ibin rfl rfl rfl rfl rfl trivial ?_
        | refine x_neg_ rfl rfl (wrap_i64 (by omega) (by omega)) rfl trivial ?_
        | refine x_len rfl rfl (by assumption) rfl trivial ?_
        | refine x_pick_t rfl rfl rfl rfl trivial ?_
        | refine x_pick_f rfl rfl rfl rfl trivial ?_
        | refine x_not rfl rfl rfl trivial ?_
        | refine x_beq rfl rfl rfl rfl trivial ?_
        | refine x_bne rfl rfl rfl rfl trivial ?_
        | refine x_extract rfl rfl rfl rfl trivial ?_
        | refine x_nilCheck rfl rfl rfl trivial ?_
        | refine x_fieldAddr rfl rfl rfl rfl trivial ?_
        | refine x_skip trivial rfl rfl rfl ?_
        | refine x_indexAddr1 rfl rfl rfl (by assumption) (by omega) (by omega) rfl trivial ?_
        | refine x_indexAddr rfl rfl rfl (by assumption) (by omega) (by omega) rfl trivial ?_
        | refine x_nil ?_
        | refine cw_seq ?_
        | refine nw_seq ?_
        | refine nw_block ?_
        | refine cw_block ?_
        | refine cw_skip ?_
        | refine cw_region ?_
        | refine cw_exit rfl ?_
        | refine cw_true rfl ?_
        | refine cw_false rfl ?_)
      refine cw_cond rfl (fun hn2 => ?_) (fun hn2 => ?_) <;> (try simp at hn2)
      · have e : cutP p h n = (2, p) := by unfold cutP; rw [if_neg (by rw [h0]; simp), if_pos (.inr (by rw [hs]; omega))]
        rw [e]
        repeat (first
          | refine x_move rfl rfl rfl trivial ?_
          | refine x_assign rfl rfl rfl trivial ?_
          | refine x_add rfl rfl rfl (wrap_i64 (by omega) (by omega)) rfl trivial ?_
          | refine x_sub_ rfl rfl rfl (wrap_i64 (by omega) (by omega)) rfl trivial ?_
          | refine x_sub_ rfl rfl rfl (wrap_u32 (by omega) (by omega)) rfl trivial ?_
          | refine x_add rfl rfl rfl (wrap_u32 (by omega) (by omega)) rfl trivial ?_
          | refine x_peqn rfl rfl rfl rfl trivial ?_
          | refine x_pnen rfl rfl rfl rfl trivial ?_
          | refine x_mul rfl rfl rfl (wrap_i64 (by omega) (by omega)) rfl trivial ?_
          | refine x_ibin rfl rfl rfl rfl rfl trivial ?_
          | refine x_neg_ rfl rfl (wrap_i64 (by omega) (by omega)) rfl trivial ?_
          | refine x_len rfl rfl (by assumption) rfl trivial ?_
          | refine x_pick_t rfl rfl rfl rfl trivial ?_
          | refine x_pick_f rfl rfl rfl rfl trivial ?_
          | refine x_not rfl rfl rfl trivial ?_
          | refine x_beq rfl rfl rfl rfl trivial ?_
          | refine x_bne rfl rfl rfl rfl trivial ?_
          | refine x_extract rfl rfl rfl rfl trivial ?_
          | refine x_nilCheck rfl rfl rfl trivial ?_
          | refine x_fieldAddr rfl rfl rfl rfl trivial ?_
          | refine x_skip trivial rfl rfl rfl ?_
          | refine x_indexAddr1 rfl rfl rfl (by assumption) (by omega) (by omega) rfl trivial ?_
          | refine x_indexAddr rfl rfl rfl (by assumption) (by omega) (by omega) rfl trivial ?_
          | refine x_nil ?_
          | refine cw_seq ?_
          | refine nw_seq ?_
          | refine nw_block ?_
          | refine cw_block ?_
          | refine cw_skip ?_
          | refine cw_region ?_
          | refine cw_exit rfl ?_
          | refine cw_true rfl ?_
          | refine cw_false rfl ?_)
        exact cw_ret1 rfl rfl ⟨rfl, Keep.refl _ _, K, Role.Ext.refl _ _, hS⟩
      · have e : cutP p h n = (0, ⟨p.most, p.used - n, p.tx.set (h - 1) (bs.drop n.toNat, true), p.back⟩) := by
          unfold cutP
          rw [if_neg (by rw [h0]; simp), if_neg (by rw [hs]; omega), hs]
        rw [e]
        have hr0 := Keep.refl Non H
        have hlen : bs.length ≤ 16777216 := by omega
        repeat (first
          | refine x_move rfl rfl rfl trivial ?_
          | refine x_assign rfl rfl rfl trivial ?_
          | refine x_add rfl rfl rfl (wrap_i64 (by omega) (by omega)) rfl trivial ?_
          | refine x_sub_ rfl rfl rfl (wrap_i64 (by omega) (by omega)) rfl trivial ?_
          | refine x_sub_ rfl rfl rfl (wrap_u32 (by omega) (by omega)) rfl trivial ?_
          | refine x_add rfl rfl rfl (wrap_u32 (by omega) (by omega)) rfl trivial ?_
          | refine x_peqn rfl rfl rfl rfl trivial ?_
          | refine x_pnen rfl rfl rfl rfl trivial ?_
          | refine x_mul rfl rfl rfl (wrap_i64 (by omega) (by omega)) rfl trivial ?_
          | refine x_ibin rfl rfl rfl rfl rfl trivial ?_
          | refine x_neg_ rfl rfl (wrap_i64 (by omega) (by omega)) rfl trivial ?_
          | refine x_len rfl rfl (by assumption) rfl trivial ?_
          | refine x_pick_t rfl rfl rfl rfl trivial ?_
          | refine x_pick_f rfl rfl rfl rfl trivial ?_
          | refine x_not rfl rfl rfl trivial ?_
          | refine x_beq rfl rfl rfl rfl trivial ?_
          | refine x_bne rfl rfl rfl rfl trivial ?_
          | refine x_extract rfl rfl rfl rfl trivial ?_
          | refine x_nilCheck rfl rfl rfl trivial ?_
          | refine x_fieldAddr rfl rfl rfl rfl trivial ?_
          | refine x_skip trivial rfl rfl rfl ?_
          | refine x_indexAddr1 rfl rfl rfl (by assumption) (by omega) (by omega) rfl trivial ?_
          | refine x_indexAddr rfl rfl rfl (by assumption) (by omega) (by omega) rfl trivial ?_
          | refine x_nil ?_
          | refine cw_seq ?_
          | refine nw_seq ?_
          | refine nw_block ?_
          | refine cw_block ?_
          | refine cw_skip ?_
          | refine cw_region ?_
          | refine cw_exit rfl ?_
          | refine cw_true rfl ?_
          | refine cw_false rfl ?_)
        refine cw_held (fun _ => Keep Non H) ⟨[14, 16], [(3, 0), (8, 0), (11, 0)]⟩ (.op 0 (.op 1 (.op 2 (.op 3 (.op 4 (.op 5 (.op 6 (.op 7 (.op 8 (.op 9 (.op 10 (.op 11 (.op 12 (.op 13 (.op 14 (.op 15 (.op 16 (.nil)))))))))))))))))) panicOk_body mixed (by kernel_rfl) ?_
        repeat (first
          | refine x_move rfl rfl rfl (okq_reg rfl rfl) ?_
          | refine x_assign rfl rfl rfl (okq_reg rfl rfl) ?_
          | refine x_add rfl rfl rfl (wrap_i64 (by omega) (by omega)) rfl (okq_reg rfl rfl) ?_
          | refine x_sub_ rfl rfl rfl (wrap_i64 (by omega) (by omega)) rfl (okq_reg rfl rfl) ?_
          | refine x_sub_ rfl rfl rfl (wrap_u32 (by omega) (by omega)) rfl (okq_reg rfl rfl) ?_
          | refine x_mul rfl rfl rfl (wrap_i64 (by omega) (by omega)) rfl (okq_reg rfl rfl) ?_
          | refine x_ibin rfl rfl rfl rfl rfl (okq_reg rfl rfl) ?_
          | refine x_len rfl rfl (by assumption) rfl (okq_reg rfl rfl) ?_
          | refine x_pick_t rfl rfl rfl rfl (okq_reg rfl rfl) ?_
          | refine x_pick_f rfl rfl rfl rfl (okq_reg rfl rfl) ?_
          | refine x_not rfl rfl rfl (okq_reg rfl rfl) ?_
          | refine x_extract rfl rfl rfl rfl (okq_reg rfl rfl) ?_
          | refine x_nilCheck rfl rfl rfl (okq_reg rfl rfl) ?_
          | refine x_fieldAddr rfl rfl rfl rfl (okq_reg rfl rfl) ?_
          | refine x_skip (okq_reg rfl rfl) rfl rfl rfl ?_
          | refine x_indexAddr1 rfl rfl rfl (by assumption) (by omega) (by omega) rfl (okq_reg rfl rfl) ?_
          | refine x_indexAddr rfl rfl rfl (by assumption) (by omega) (by omega) rfl (okq_reg rfl rfl) ?_
          | refine x_nil ?_
          | refine cw_seq ?_
          | refine nw_seq ?_
          | refine nw_block ?_
          | refine cw_block ?_
          | refine cw_skip ?_
          | refine cw_region ?_
          | refine cw_exit rfl ?_
          | refine cw_true rfl ?_
          | refine cw_false rfl ?_)
        refine x_load rfl rfl (hpmk rfl (fun _ hk => hk.cel c0 (fun h => h))) rfl (okq_load rfl rfl (by assumption)) ?_
        repeat (first
          | refine x_move rfl rfl rfl (okq_reg rfl rfl) ?_
          | refine x_assign rfl rfl rfl (okq_reg rfl rfl) ?_
          | refine x_add rfl rfl rfl (wrap_i64 (by omega) (by omega)) rfl (okq_reg rfl rfl) ?_
          | refine x_sub_ rfl rfl rfl (wrap_i64 (by omega) (by omega)) rfl (okq_reg rfl rfl) ?_
          | refine x_sub_ rfl rfl rfl (wrap_u32 (by omega) (by omega)) rfl (okq_reg rfl rfl) ?_
          | refine x_mul rfl rfl rfl (wrap_i64 (by omega) (by omega)) rfl (okq_reg rfl rfl) ?_
          | refine x_ibin rfl rfl rfl rfl rfl (okq_reg rfl rfl) ?_
          | refine x_len rfl rfl (by assumption) rfl (okq_reg rfl rfl) ?_
          | refine x_pick_t rfl rfl rfl rfl (okq_reg rfl rfl) ?_
          | refine x_pick_f rfl rfl rfl rfl (okq_reg rfl rfl) ?_
          | refine x_not rfl rfl rfl (okq_reg rfl rfl) ?_
          | refine x_extract rfl rfl rfl rfl (okq_reg rfl rfl) ?_
          | refine x_nilCheck rfl rfl rfl (okq_reg rfl rfl) ?_
          | refine x_fieldAddr rfl rfl rfl rfl (okq_reg rfl rfl) ?_
          | refine x_skip (okq_reg rfl rfl) rfl rfl rfl ?_
          | refine x_indexAddr1 rfl rfl rfl (by assumption) (by omega) (by omega) rfl (okq_reg rfl rfl) ?_
          | refine x_indexAddr rfl rfl rfl (by assumption) (by omega) (by omega) rfl (okq_reg rfl rfl) ?_
          | refine x_nil ?_
          | refine cw_seq ?_
          | refine nw_seq ?_
          | refine nw_block ?_
          | refine cw_block ?_
          | refine cw_skip ?_
          | refine cw_region ?_
          | refine cw_exit rfl ?_
          | refine cw_true rfl ?_
          | refine cw_false rfl ?_)
        refine x_load rfl rfl (hpmk rfl (fun _ hk => hk.cel c0 (fun h => h))) rfl (okq_load rfl rfl (by assumption)) ?_
        repeat (first
          | refine x_move rfl rfl rfl (okq_reg rfl rfl) ?_
          | refine x_assign rfl rfl rfl (okq_reg rfl rfl) ?_
          | refine x_add rfl rfl rfl (wrap_i64 (by omega) (by omega)) rfl (okq_reg rfl rfl) ?_
          | refine x_sub_ rfl rfl rfl (wrap_i64 (by omega) (by omega)) rfl (okq_reg rfl rfl) ?_
          | refine x_sub_ rfl rfl rfl (wrap_u32 (by omega) (by omega)) rfl (okq_reg rfl rfl) ?_
          | refine x_mul rfl rfl rfl (wrap_i64 (by omega) (by omega)) rfl (okq_reg rfl rfl) ?_
          | refine x_ibin rfl rfl rfl rfl rfl (okq_reg rfl rfl) ?_
          | refine x_len rfl rfl (by assumption) rfl (okq_reg rfl rfl) ?_
          | refine x_pick_t rfl rfl rfl rfl (okq_reg rfl rfl) ?_
          | refine x_pick_f rfl rfl rfl rfl (okq_reg rfl rfl) ?_
          | refine x_not rfl rfl rfl (okq_reg rfl rfl) ?_
          | refine x_extract rfl rfl rfl rfl (okq_reg rfl rfl) ?_
          | refine x_nilCheck rfl rfl rfl (okq_reg rfl rfl) ?_
          | refine x_fieldAddr rfl rfl rfl rfl (okq_reg rfl rfl) ?_
          | refine x_skip (okq_reg rfl rfl) rfl rfl rfl ?_
          | refine x_indexAddr1 rfl rfl rfl (by assumption) (by omega) (by omega) rfl (okq_reg rfl rfl) ?_
          | refine x_indexAddr rfl rfl rfl (by assumption) (by omega) (by omega) rfl (okq_reg rfl rfl) ?_
          | refine x_nil ?_
          | refine cw_seq ?_
          | refine nw_seq ?_
          | refine nw_block ?_
          | refine cw_block ?_
          | refine cw_skip ?_
          | refine cw_region ?_
          | refine cw_exit rfl ?_
          | refine cw_true rfl ?_
          | refine cw_false rfl ?_)
        refine x_load rfl rfl (hpmk rfl (fun _ hk => hk.cel hc0 (fun h => h))) rfl (okq_load rfl rfl (by assumption)) ?_
        repeat (first
          | refine x_move rfl rfl rfl (okq_reg rfl rfl) ?_
          | refine x_assign rfl rfl rfl (okq_reg rfl rfl) ?_
          | refine x_add rfl rfl rfl (wrap_i64 (by omega) (by omega)) rfl (okq_reg rfl rfl) ?_
          | refine x_sub_ rfl rfl rfl (wrap_i64 (by omega) (by omega)) rfl (okq_reg rfl rfl) ?_
          | refine x_sub_ rfl rfl rfl (wrap_u32 (by omega) (by omega)) rfl (okq_reg rfl rfl) ?_
          | refine x_mul rfl rfl rfl (wrap_i64 (by omega) (by omega)) rfl (okq_reg rfl rfl) ?_
          | refine x_ibin rfl rfl rfl rfl rfl (okq_reg rfl rfl) ?_
          | refine x_len rfl rfl (by assumption) rfl (okq_reg rfl rfl) ?_
          | refine x_pick_t rfl rfl rfl rfl (okq_reg rfl rfl) ?_
          | refine x_pick_f rfl rfl rfl rfl (okq_reg rfl rfl) ?_
          | refine x_not rfl rfl rfl (okq_reg rfl rfl) ?_
          | refine x_extract rfl rfl rfl rfl (okq_reg rfl rfl) ?_
          | refine x_nilCheck rfl rfl rfl (okq_reg rfl rfl) ?_
          | refine x_fieldAddr rfl rfl rfl rfl (okq_reg rfl rfl) ?_
          | refine x_skip (okq_reg rfl rfl) rfl rfl rfl ?_
          | refine x_indexAddr1 rfl rfl rfl (by assumption) (by omega) (by omega) rfl (okq_reg rfl rfl) ?_
          | refine x_indexAddr rfl rfl rfl (by assumption) (by omega) (by omega) rfl (okq_reg rfl rfl) ?_
          | refine x_nil ?_
          | refine cw_seq ?_
          | refine nw_seq ?_
          | refine nw_block ?_
          | refine cw_block ?_
          | refine cw_skip ?_
          | refine cw_region ?_
          | refine cw_exit rfl ?_
          | refine cw_true rfl ?_
          | refine cw_false rfl ?_)
        refine x_slice_l rfl rfl rfl sX (by omega) (by omega) rfl (okq_reg rfl rfl) ?_
        intro u hu' hcut
        have hU := hx.1.cut (a := n.toNat) (b := bs.length) hu' hcut (by omega) (Nat.le_refl _)
        rw [List.take_length] at hU
        refine x_append (v := .slice none 0 0) (by rfl) (by rfl) (by rfl) rfl rfl rfl (Own.nil 1 H) hU.sl (cx := bvs (bs.drop n.toNat)) (by rw [bvs_length, Nat.mul_one]) hU.at_ (bvs_oneC _) (by rw [List.length_drop]; omega) rfl ⟨rfl, rfl⟩ ?_
        intro w H1 hap
        refine ⟨okm_keep (hap.old (Fresh.nil H) (Keep.refl _ _)) (fun _ _ h => h), ?_⟩
        have hk1 := hap.old (Fresh.nil H) (Keep.refl _ _)
        have hf1 := hap.fresh (Fresh.nil H) (Nat.le_refl _)
        have ho1 : Own 1 H1 w (bs.drop n.toNat).length (bvs (bs.drop n.toNat)) := by simpa using hap.own
        repeat (first
          | refine x_move rfl rfl rfl (okq_reg rfl rfl) ?_
          | refine x_assign rfl rfl rfl (okq_reg rfl rfl) ?_
          | refine x_add rfl rfl rfl (wrap_i64 (by omega) (by omega)) rfl (okq_reg rfl rfl) ?_
          | refine x_sub_ rfl rfl rfl (wrap_i64 (by omega) (by omega)) rfl (okq_reg rfl rfl) ?_
          | refine x_sub_ rfl rfl rfl (wrap_u32 (by omega) (by omega)) rfl (okq_reg rfl rfl) ?_
          | refine x_mul rfl rfl rfl (wrap_i64 (by omega) (by omega)) rfl (okq_reg rfl rfl) ?_
          | refine x_ibin rfl rfl rfl rfl rfl (okq_reg rfl rfl) ?_
          | refine x_len rfl rfl (by assumption) rfl (okq_reg rfl rfl) ?_
          | refine x_pick_t rfl rfl rfl rfl (okq_reg rfl rfl) ?_
          | refine x_pick_f rfl rfl rfl rfl (okq_reg rfl rfl) ?_
          | refine x_not rfl rfl rfl (okq_reg rfl rfl) ?_
          | refine x_extract rfl rfl rfl rfl (okq_reg rfl rfl) ?_
          | refine x_nilCheck rfl rfl rfl (okq_reg rfl rfl) ?_
          | refine x_fieldAddr rfl rfl rfl rfl (okq_reg rfl rfl) ?_
          | refine x_skip (okq_reg rfl rfl) rfl rfl rfl ?_
          | refine x_indexAddr1 rfl rfl rfl (by assumption) (by omega) (by omega) rfl (okq_reg rfl rfl) ?_
          | refine x_indexAddr rfl rfl rfl (by assumption) (by omega) (by omega) rfl (okq_reg rfl rfl) ?_
          | refine x_nil ?_
          | refine cw_seq ?_
          | refine nw_seq ?_
          | refine nw_block ?_
          | refine cw_block ?_
          | refine cw_skip ?_
          | refine cw_region ?_
          | refine cw_exit rfl ?_
          | refine cw_true rfl ?_
          | refine cw_false rfl ?_)
        refine x_store rfl rfl rfl (isSl_oneC ho1.sl) (hB.keep hk1 (fun h => h)) hr ⟨rfl, rfl⟩ ?_
        intro H2 hB2 hk2 hs2
        refine ⟨okm_free (fun c => by cases c <;> kernel_rfl), ?_⟩
        obtain ⟨K1, hK1, hKe, hKc⟩ : ∃ K1 : Role, K1.In H1 ∧ (∀ x, x < H.size → K1 x = K x) ∧ (bs.drop n.toNat ≠ [] → K1 (sb w) = 4) := by
          by_cases hc : 0 < sc w
          · have h1 := ho1.lt hc
            have h2 := hf1 hc
            refine ⟨K.set (sb w) 4, (hS.kin.mono hk1.size).set h1, fun x hx => Role.set_ne K (by omega), fun _ => Role.set_at _ _ _⟩
          · refine ⟨K, hS.kin.mono hk1.size, fun x _ => rfl, fun hne => ?_⟩
            have := List.length_pos_iff.2 hne
            have := ho1.sl.cap.1
            omega
        have hKK : ∀ x, K x ≠ 0 → K1 x = K x := fun x hx => hKe x (hS.kin x hx)
        have kb : K1 b = 1 := by rw [hKK b (by omega)]; exact k1
        have ks : K1 (sb vs) = 2 := by rw [hKK _ (by omega)]; exact h3
        have kt : K1 (sb vt) = 5 := by rw [hKK _ (by omega)]; exact h5
        have kv : 0 < sc vb → K1 (sb vb) = 3 := fun hc => by have := h7 hc; rw [hKK _ (by omega)]; exact this
        have hput2 := hput H2 w (bs.drop n.toNat) w (by simp [encS])
        have hT2 : Rw encS 1 (BsR K1 H2) H2 vs ((tS p).set h (bs.drop n.toNat)) := by
          obtain ⟨q, hq1, hq2⟩ := (h2.mono fun x y hxy => hxy.keep hk1 (fun _ _ h => h) (K' := K1) (fun x hx => by rw [hKK x (by omega)]; exact hx)).row
          obtain ⟨r', hB', hr', hx'⟩ := Rw.put1 (j := h) (k := 0) (⟨q, hq1, hq2.keep hk1 (fun _ h => h)⟩ : Rw encS 1 (BsR K1 H1) H1 vs (tS p)) encS_len (by omega) (by rw [e1]; omega)
          obtain ⟨x', _, _, hput'⟩ := hx' _ gS
          have : r' = r := hB'.uniq (hB.keep hk1 (fun h => h))
          subst this
          have := hput' H2 w (bs.drop n.toNat) w (by simp [encS]) ⟨ho1.bs, hKc⟩ (by rw [Nat.mul_one, Nat.add_zero]; exact hB2)
          exact bss_keep this hk2 (fun x hx e => by rw [e, ks] at hx; omega)
        have hneb : ¬ b = sb vs := fun e => by rw [e, ks] at kb; omega
        have hb2 := (h1.keep hk1 (fun h => h)).keep hk2 hneb
        have c42 : cel H2 b 4 = some (.int .i64 p.used) := by rw [hb2.cel]; rfl
        have k02 : Keep (MutQ K) H H2 := (hk1.mono fun _ _ h => h.elim).step hk2 fun x _ e => .inr (.inl (by rw [e]; exact h3))
        repeat (first
          | refine x_move rfl rfl rfl (okq_reg rfl rfl) ?_
          | refine x_assign rfl rfl rfl (okq_reg rfl rfl) ?_
          | refine x_add rfl rfl rfl (wrap_i64 (by omega) (by omega)) rfl (okq_reg rfl rfl) ?_
          | refine x_sub_ rfl rfl rfl (wrap_i64 (by omega) (by omega)) rfl (okq_reg rfl rfl) ?_
          | refine x_sub_ rfl rfl rfl (wrap_u32 (by omega) (by omega)) rfl (okq_reg rfl rfl) ?_
          | refine x_mul rfl rfl rfl (wrap_i64 (by omega) (by omega)) rfl (okq_reg rfl rfl) ?_
          | refine x_ibin rfl rfl rfl rfl rfl (okq_reg rfl rfl) ?_
          | refine x_len rfl rfl (by assumption) rfl (okq_reg rfl rfl) ?_
          | refine x_pick_t rfl rfl rfl rfl (okq_reg rfl rfl) ?_
          | refine x_pick_f rfl rfl rfl rfl (okq_reg rfl rfl) ?_
          | refine x_not rfl rfl rfl (okq_reg rfl rfl) ?_
          | refine x_extract rfl rfl rfl rfl (okq_reg rfl rfl) ?_
          | refine x_nilCheck rfl rfl rfl (okq_reg rfl rfl) ?_
          | refine x_fieldAddr rfl rfl rfl rfl (okq_reg rfl rfl) ?_
          | refine x_skip (okq_reg rfl rfl) rfl rfl rfl ?_
          | refine x_indexAddr1 rfl rfl rfl (by assumption) (by omega) (by omega) rfl (okq_reg rfl rfl) ?_
          | refine x_indexAddr rfl rfl rfl (by assumption) (by omega) (by omega) rfl (okq_reg rfl rfl) ?_
          | refine x_nil ?_
          | refine cw_seq ?_
          | refine nw_seq ?_
          | refine nw_block ?_
          | refine cw_block ?_
          | refine cw_skip ?_
          | refine cw_region ?_
          | refine cw_exit rfl ?_
          | refine cw_true rfl ?_
          | refine cw_false rfl ?_)
        repeat (first
          | refine x_move rfl rfl rfl trivial ?_
          | refine x_assign rfl rfl rfl trivial ?_
          | refine x_add rfl rfl rfl (wrap_i64 (by omega) (by omega)) rfl trivial ?_
          | refine x_sub_ rfl rfl rfl (wrap_i64 (by omega) (by omega)) rfl trivial ?_
          | refine x_sub_ rfl rfl rfl (wrap_u32 (by omega) (by omega)) rfl trivial ?_
          | refine x_add rfl rfl rfl (wrap_u32 (by omega) (by omega)) rfl trivial ?_
          | refine x_peqn rfl rfl rfl rfl trivial ?_
          | refine x_pnen rfl rfl rfl rfl trivial ?_
          | refine x_mul rfl rfl rfl (wrap_i64 (by omega) (by omega)) rfl trivial ?_
          | refine x_ibin rfl rfl rfl rfl rfl trivial ?_
          | refine x_neg_ rfl rfl (wrap_i64 (by omega) (by omega)) rfl trivial ?_
          | refine x_len rfl rfl (by assumption) rfl trivial ?_
          | refine x_pick_t rfl rfl rfl rfl trivial ?_
          | refine x_pick_f rfl rfl rfl rfl trivial ?_
          | refine x_not rfl rfl rfl trivial ?_
          | refine x_beq rfl rfl rfl rfl trivial ?_
          | refine x_bne rfl rfl rfl rfl trivial ?_
          | refine x_extract rfl rfl rfl rfl trivial ?_
          | refine x_nilCheck rfl rfl rfl trivial ?_
          | refine x_fieldAddr rfl rfl rfl rfl trivial ?_
          | refine x_skip trivial rfl rfl rfl ?_
          | refine x_indexAddr1 rfl rfl rfl (by assumption) (by omega) (by omega) rfl trivial ?_
          | refine x_indexAddr rfl rfl rfl (by assumption) (by omega) (by omega) rfl trivial ?_
          | refine x_nil ?_
          | refine cw_seq ?_
          | refine nw_seq ?_
          | refine nw_block ?_
          | refine cw_block ?_
          | refine cw_skip ?_
          | refine cw_region ?_
          | refine cw_exit rfl ?_
          | refine cw_true rfl ?_
          | refine cw_false rfl ?_)
        refine x_load rfl rfl (hpmt (c42)) rfl trivial ?_
        repeat (first
          | refine x_move rfl rfl rfl trivial ?_
          | refine x_assign rfl rfl rfl trivial ?_
          | refine x_add rfl rfl rfl (wrap_i64 (by omega) (by omega)) rfl trivial ?_
          | refine x_sub_ rfl rfl rfl (wrap_i64 (by omega) (by omega)) rfl trivial ?_
          | refine x_sub_ rfl rfl rfl (wrap_u32 (by omega) (by omega)) rfl trivial ?_
          | refine x_add rfl rfl rfl (wrap_u32 (by omega) (by omega)) rfl trivial ?_
          | refine x_peqn rfl rfl rfl rfl trivial ?_
          | refine x_pnen rfl rfl rfl rfl trivial ?_
          | refine x_mul rfl rfl rfl (wrap_i64 (by omega) (by omega)) rfl trivial ?_
          | refine x_ibin rfl rfl rfl rfl rfl trivial ?_
          | refine x_neg_ rfl rfl (wrap_i64 (by omega) (by omega)) rfl trivial ?_
          | refine x_len rfl rfl (by assumption) rfl trivial ?_
          | refine x_pick_t rfl rfl rfl rfl trivial ?_
          | refine x_pick_f rfl rfl rfl rfl trivial ?_
          | refine x_not rfl rfl rfl trivial ?_
          | refine x_beq rfl rfl rfl rfl trivial ?_
          | refine x_bne rfl rfl rfl rfl trivial ?_
          | refine x_extract rfl rfl rfl rfl trivial ?_
          | refine x_nilCheck rfl rfl rfl trivial ?_
          | refine x_fieldAddr rfl rfl rfl rfl trivial ?_
          | refine x_skip trivial rfl rfl rfl ?_
          | refine x_indexAddr1 rfl rfl rfl (by assumption) (by omega) (by omega) rfl trivial ?_
          | refine x_indexAddr rfl rfl rfl (by assumption) (by omega) (by omega) rfl trivial ?_
          | refine x_nil ?_
          | refine cw_seq ?_
          | refine nw_seq ?_
          | refine nw_block ?_
          | refine cw_block ?_
          | refine cw_skip ?_
          | refine cw_region ?_
          | refine cw_exit rfl ?_
          | refine cw_true rfl ?_
          | refine cw_false rfl ?_)
        refine x_store rfl rfl rfl rfl hb2 (by simp) trivial ?_
        intro H3 hB3 hk3 hs3
        refine ⟨trivial, ?_⟩
        repeat (first
          | refine x_move rfl rfl rfl trivial ?_
          | refine x_assign rfl rfl rfl trivial ?_
          | refine x_add rfl rfl rfl (wrap_i64 (by omega) (by omega)) rfl trivial ?_
          | refine x_sub_ rfl rfl rfl (wrap_i64 (by omega) (by omega)) rfl trivial ?_
          | refine x_sub_ rfl rfl rfl (wrap_u32 (by omega) (by omega)) rfl trivial ?_
          | refine x_add rfl rfl rfl (wrap_u32 (by omega) (by omega)) rfl trivial ?_
          | refine x_peqn rfl rfl rfl rfl trivial ?_
          | refine x_pnen rfl rfl rfl rfl trivial ?_
          | refine x_mul rfl rfl rfl (wrap_i64 (by omega) (by omega)) rfl trivial ?_
          | refine x_ibin rfl rfl rfl rfl rfl trivial ?_
          | refine x_neg_ rfl rfl (wrap_i64 (by omega) (by omega)) rfl trivial ?_
          | refine x_len rfl rfl (by assumption) rfl trivial ?_
          | refine x_pick_t rfl rfl rfl rfl trivial ?_
          | refine x_pick_f rfl rfl rfl rfl trivial ?_
          | refine x_not rfl rfl rfl trivial ?_
          | refine x_beq rfl rfl rfl rfl trivial ?_
          | refine x_bne rfl rfl rfl rfl trivial ?_
          | refine x_extract rfl rfl rfl rfl trivial ?_
          | refine x_nilCheck rfl rfl rfl trivial ?_
          | refine x_fieldAddr rfl rfl rfl rfl trivial ?_
          | refine x_skip trivial rfl rfl rfl ?_
          | refine x_indexAddr1 rfl rfl rfl (by assumption) (by omega) (by omega) rfl trivial ?_
          | refine x_indexAddr rfl rfl rfl (by assumption) (by omega) (by omega) rfl trivial ?_
          | refine x_nil ?_
          | refine cw_seq ?_
          | refine nw_seq ?_
          | refine nw_block ?_
          | refine cw_block ?_
          | refine cw_skip ?_
          | refine cw_region ?_
          | refine cw_exit rfl ?_
          | refine cw_true rfl ?_
          | refine cw_false rfl ?_)
        refine cw_ret1 rfl rfl ⟨rfl, k02.step hk3 fun x _ e => .inl (by rw [e]; exact k1), K1, ⟨hKe, by have := hk1.size; omega⟩, hK1.mono (by omega), kb, vs, vt, vb, hB3, ?_, ks, ?_, kt, ?_, kv⟩
        · rw [tS_set p h _ _ _ _ _ g1]
          exact bss_keep (hT2.keep hk3 (fun _ e => hneb e.symm)) hk3 (fun x hx e => by rw [e, kb] at hx; omega)
        · rw [tB_same h0]
          exact ((h4.keep hk1 (fun _ h => h)).keep hk2 (fun _ e => by rw [e, ks] at kt; omega)).keep hk3 (fun _ e => by rw [e, kb] at kt; omega)
        · exact ((h6.keep hk1 (fun _ h => h)).keep hk2 (fun hc e => by have := kv hc; rw [e, ks] at this; omega)).keep hk3 (fun hc e => by have := kv hc; rw [e, kb] at this; omega)

theorem ref6_Drop {K : Role} {b h : Nat} {p : Pl} {H : Heap} (hS : Sq K H b p) (hw : p.Wf) (hh : h < 4294967296) (hl : p.tx.length ≤ 1000000) (hbl : p.back.length ≤ 1000000) :
    Ret Try.prog 17 [ptr b 0, .int .u32 (h : Nat)] H (fun v H' => v = .int .i64 (dropP p h).1 ∧ Keep (MutQ K) H H' ∧ ∃ K', K.Ext K' H H' ∧ Sq K' H' b (dropP p h).2) := by
  have hu := hw.used_le
  obtain ⟨vs, vt, vb, h1, h2, h3, h4, h5, h6, h7⟩ := hS.row
  have sS := h2.sl
  have sT := h4.sl
  have e1 : (tS p).length = p.tx.length + 1 := by simp [tS]
  have e2 : (tB p).length = p.tx.length + 1 := by simp [tB]
  rw [e1] at sS
  rw [e2] at sT
  have c0 : cel H b 0 = some vs := by rw [h1.cel]; rfl
  have c1 : cel H b 1 = some vt := by rw [h1.cel]; rfl
  have c2 : cel H b 2 = some vb := by rw [h1.cel]; rfl
  have c4 : cel H b 4 = some (.int .i64 p.used) := by rw [h1.cel]; rfl
  have k1 := hS.one
  refine ret_of Try.func17 rfl rfl rfl rfl ?_
  intro w0
  repeat (first
    | refine x_move rfl rfl rfl trivial ?_
    | refine x_assign rfl rfl rfl trivial ?_
    | refine x_add rfl rfl rfl (wrap_i64 (by omega) (by omega)) rfl trivial ?_
    | refine x_sub_ rfl rfl rfl (wrap_i64 (by omega) (by omega)) rfl trivial ?_
    | refine x_sub_ rfl rfl rfl (wrap_u32 (by omega) (by omega)) rfl trivial ?_
    | refine x_add rfl rfl rfl (wrap_u32 (by omega) (by omega)) rfl trivial ?_
    | refine x_peqn rfl rfl rfl rfl trivial ?_
    | refine x_pnen rfl rfl rfl rfl trivial ?_
    | refine x_mul rfl rfl rfl (wrap_i64 (by omega) (by omega)) rfl trivial ?_
    | refine x_ibin rfl rfl rfl rfl rfl trivial ?_
    | refine x_neg_ rfl rfl (wrap_i64 (by omega) (by omega)) rfl trivial ?_
    | refine x_len rfl rfl (by assumption) rfl trivial ?_
    | refine x_pick_t rfl rfl rfl rfl trivial ?_
    | refine x_pick_f rfl rfl rfl rfl trivial ?_
    | refine x_not rfl rfl rfl trivial ?_
    | refine x_beq rfl rfl rfl rfl trivial ?_
    | refine x_bne rfl rfl rfl rfl trivial ?_
    | refine x_extract rfl rfl rfl rfl trivial ?_
    | refine x_nilCheck rfl rfl rfl trivial ?_
    | refine x_fieldAddr rfl rfl rfl rfl trivial ?_
    | refine x_skip trivial rfl rfl rfl ?_
    | refine x_indexAddr1 rfl rfl rfl (by assumption) (by omega) (by omega) rfl trivial ?_
    | refine x_indexAddr rfl rfl rfl (by assumption) (by omega) (by omega) rfl trivial ?_
    | refine x_nil ?_
    | refine cw_seq ?_
    | refine nw_seq ?_
    | refine nw_block ?_
    | refine cw_block ?_
    | refine cw_skip ?_
    | refine cw_region ?_
    | refine cw_exit rfl ?_
    | refine cw_true rfl ?_
    | refine cw_false rfl ?_)
  refine x_call rfl rfl rfl trivial (ref6_Has hS hh) ?_
  rintro _ _ ⟨rfl, rfl⟩
  refine ⟨trivial, ?_⟩
  repeat (first
    | refine x_move rfl rfl rfl trivial ?_
    | refine x_assign rfl rfl rfl trivial ?_
    | refine x_add rfl rfl rfl (wrap_i64 (by omega) (by omega)) rfl trivial ?_
    | refine x_sub_ rfl rfl rfl (wrap_i64 (by omega) (by omega)) rfl trivial ?_
    | refine x_sub_ rfl rfl rfl (wrap_u32 (by omega) (by omega)) rfl trivial ?_
    | refine x_add rfl rfl rfl (wrap_u32 (by omega) (by omega)) rfl trivial ?_
    | refine x_peqn rfl rfl rfl rfl trivial ?_
    | refine x_pnen rfl rfl rfl rfl trivial ?_
    | refine x_mul rfl rfl rfl (wrap_i64 (by omega) (by omega)) rfl trivial ?_
    | refine x_ibin rfl rfl rfl rfl rfl trivial ?_
    | refine x_neg_ rfl rfl (wrap_i64 (by omega) (by omega)) rfl trivial ?_
    | refine x_len rfl rfl (by assumption) rfl trivial ?_
    | refine x_pick_t rfl rfl rfl rfl trivial ?_
    | refine x_pick_f rfl rfl rfl rfl trivial ?_
    | refine x_not rfl rfl rfl trivial ?_
    | refine x_beq rfl rfl rfl rfl trivial ?_
    | refine x_bne rfl rfl rfl rfl trivial ?_
    | refine x_extract rfl rfl rfl rfl trivial ?_
    | refine x_nilCheck rfl rfl rfl trivial ?_
    | refine x_fieldAddr rfl rfl rfl rfl trivial ?_
    | refine x_skip trivial rfl rfl rfl ?_
    | refine x_indexAddr1 rfl rfl rfl (by assumption) (by omega) (by omega) rfl trivial ?_
    | refine x_indexAddr rfl rfl rfl (by assumption) (by omega) (by omega) rfl trivial ?_
    | refine x_nil ?_
    | refine cw_seq ?_
    | refine nw_seq ?_
    | refine nw_block ?_
    | refine cw_block ?_
    | refine cw_skip ?_
    | refine cw_region ?_
    | refine cw_exit rfl ?_
    | refine cw_true rfl ?_
    | refine cw_false rfl ?_)
  cases h0 : hasP p h with
  | false =>
    have e : dropP p h = (5, p) := by unfold dropP; rw [if_pos h0]
    rw [e]
    repeat (first
      | refine x_move rfl rfl rfl trivial ?_
      | refine x_assign rfl rfl rfl trivial ?_
      | refine x_add rfl rfl rfl (wrap_i64 (by omega) (by omega)) rfl trivial ?_
      | refine x_sub_ rfl rfl rfl (wrap_i64 (by omega) (by omega)) rfl trivial ?_
      | refine x_sub_ rfl rfl rfl (wrap_u32 (by omega) (by omega)) rfl trivial ?_
      | refine x_add rfl rfl rfl (wrap_u32 (by omega) (by omega)) rfl trivial ?_
      | refine x_peqn rfl rfl rfl rfl trivial ?_
      | refine x_pnen rfl rfl rfl rfl trivial ?_
      | refine x_mul rfl rfl rfl (wrap_i64 (by omega) (by omega)) rfl trivial ?_
      | refine x_ibin rfl rfl rfl rfl rfl trivial ?_
      | refine x_neg_ rfl rfl (wrap_i64 (by omega) (by omega)) rfl trivial ?_
      | refine x_len rfl rfl (by assumption) rfl trivial ?_
      | refine x_pick_t rfl rfl rfl rfl trivial ?_
      | refine x_pick_f rfl rfl rfl rfl trivial ?_
      | refine x_not rfl rfl rfl trivial ?_
      | refine x_beq rfl rfl rfl rfl trivial ?_
      | refine x_bne rfl rfl rfl rfl trivial ?_
      | refine x_extract rfl rfl rfl rfl trivial ?_
      | refine x_nilCheck rfl rfl rfl trivial ?_
      | refine x_fieldAddr rfl rfl rfl rfl trivial ?_
      | refine x_skip trivial rfl rfl rfl ?_
      | refine x_indexAddr1 rfl rfl rfl (by assumption) (by omega) (by omega) rfl trivial ?_
      | refine x_indexAddr rfl rfl rfl (by assumption) (by omega) (by omega) rfl trivial ?_
      | refine x_nil ?_
      | refine cw_seq ?_
      | refine nw_seq ?_
      | refine nw_block ?_
      | refine cw_block ?_
      | refine cw_skip ?_
      | refine cw_region ?_
      | refine cw_exit rfl ?_
      | refine cw_true rfl ?_
      | refine cw_false rfl ?_)
    exact cw_ret1 rfl rfl ⟨rfl, Keep.refl _ _, K, Role.Ext.refl _ _, hS⟩
  | true =>
    obtain ⟨g1, bs, g2⟩ := hasP_iff.1 h0
    have hs : strP p h = bs := by unfold strP; rw [g2]
    have hlt := (List.getElem?_eq_some_iff.1 g2).1
    have gS := tS_get h0
    rw [hs] at gS
    have e : dropP p h = (0, ⟨p.most, p.used - bs.length, p.tx.set (h - 1) ([], false), p.back ++ [h]⟩) := by
      unfold dropP
      rw [if_neg (by rw [h0]; simp), hs]
    rw [e]
    obtain ⟨x, hx, hc0⟩ := h2.rd.cel1 encS_len gS
    have sX := hx.1.sl
    have cX := sX.cap
    have hle := txSum_le g2
    have hwu := hw.used
    simp only at hle
    have hr0 := Keep.refl Non H
    have hneb : ¬ b = sb vs := fun e => by rw [e, h3] at k1; omega
    have hnet : ¬ b = sb vt := fun e => by rw [e, h5] at k1; omega
    have hnst : ¬ sb vs = sb vt := fun e => by rw [e, h5] at h3; omega
    have hnv : 0 < sc vb → ¬ sb vb = b ∧ ¬ sb vb = sb vs ∧ ¬ sb vb = sb vt := fun hc => by
      have := h7 hc
      refine ⟨fun e => ?_, fun e => ?_, fun e => ?_⟩ <;> rw [e] at this <;> omega
    repeat (first
      | refine x_move rfl rfl rfl trivial ?_
      | refine x_assign rfl rfl rfl trivial ?_
      | refine x_add rfl rfl rfl (wrap_i64 (by omega) (by omega)) rfl trivial ?_
      | refine x_sub_ rfl rfl rfl (wrap_i64 (by omega) (by omega)) rfl trivial ?_
      | refine x_sub_ rfl rfl rfl (wrap_u32 (by omega) (by omega)) rfl trivial ?_
      | refine x_add rfl rfl rfl (wrap_u32 (by omega) (by omega)) rfl trivial ?_
      | refine x_peqn rfl rfl rfl rfl trivial ?_
      | refine x_pnen rfl rfl rfl rfl trivial ?_
      | refine x_mul rfl rfl rfl (wrap_i64 (by omega) (by omega)) rfl trivial ?_
      | refine x_ibin rfl rfl rfl rfl rfl trivial ?_
      | refine x_neg_ rfl rfl (wrap_i64 (by omega) (by omega)) rfl trivial ?_
      | refine x_len rfl rfl (by assumption) rfl trivial ?_
      | refine x_pick_t rfl rfl rfl rfl trivial ?_
      | refine x_pick_f rfl rfl rfl rfl trivial ?_
      | refine x_not rfl rfl rfl trivial ?_
      | refine x_beq rfl rfl rfl rfl trivial ?_
      | refine x_bne rfl rfl rfl rfl trivial ?_
      | refine x_extract rfl rfl rfl rfl trivial ?_
      | refine x_nilCheck rfl rfl rfl trivial ?_
      | refine x_fieldAddr rfl rfl rfl rfl trivial ?_
      | refine x_skip trivial rfl rfl rfl ?_
      | refine x_indexAddr1 rfl rfl rfl (by assumption) (by omega) (by omega) rfl trivial ?_
      | refine x_indexAddr rfl rfl rfl (by assumption) (by omega) (by omega) rfl trivial ?_
      | refine x_nil ?_
      | refine cw_seq ?_
      | refine nw_seq ?_
      | refine nw_block ?_
      | refine cw_block ?_
      | refine cw_skip ?_
      | refine cw_region ?_
      | refine cw_exit rfl ?_
      | refine cw_true rfl ?_
      | refine cw_false rfl ?_)
    refine cw_held (fun _ => Keep Non H) ⟨[16], [(4, 0), (8, 0), (11, 0)]⟩ (.op 0 (.op 1 (.op 2 (.op 3 (.op 4 (.op 5 (.op 6 (.op 7 (.op 8 (.op 9 (.op 10 (.op 11 (.op 12 (.op 13 (.op 14 (.op 15 (.op 16 (.nil)))))))))))))))))) panicOk_body mixed (by kernel_rfl) ?_
    repeat (first
      | refine x_move rfl rfl rfl (okq_reg rfl rfl) ?_
      | refine x_assign rfl rfl rfl (okq_reg rfl rfl) ?_
      | refine x_add rfl rfl rfl (wrap_i64 (by omega) (by omega)) rfl (okq_reg rfl rfl) ?_
      | refine x_sub_ rfl rfl rfl (wrap_i64 (by omega) (by omega)) rfl (okq_reg rfl rfl) ?_
      | refine x_sub_ rfl rfl rfl (wrap_u32 (by omega) (by omega)) rfl (okq_reg rfl rfl) ?_
      | refine x_mul rfl rfl rfl (wrap_i64 (by omega) (by omega)) rfl (okq_reg rfl rfl) ?_
      | refine x_ibin rfl rfl rfl rfl rfl (okq_reg rfl rfl) ?_
      | refine x_len rfl rfl (by assumption) rfl (okq_reg rfl rfl) ?_
      | refine x_pick_t rfl rfl rfl rfl (okq_reg rfl rfl) ?_
      | refine x_pick_f rfl rfl rfl rfl (okq_reg rfl rfl) ?_
      | refine x_not rfl rfl rfl (okq_reg rfl rfl) ?_
      | refine x_extract rfl rfl rfl rfl (okq_reg rfl rfl) ?_
      | refine x_nilCheck rfl rfl rfl (okq_reg rfl rfl) ?_
      | refine x_fieldAddr rfl rfl rfl rfl (okq_reg rfl rfl) ?_
      | refine x_skip (okq_reg rfl rfl) rfl rfl rfl ?_
      | refine x_indexAddr1 rfl rfl rfl (by assumption) (by omega) (by omega) rfl (okq_reg rfl rfl) ?_
      | refine x_indexAddr rfl rfl rfl (by assumption) (by omega) (by omega) rfl (okq_reg rfl rfl) ?_
      | refine x_nil ?_
      | refine cw_seq ?_
      | refine nw_seq ?_
      | refine nw_block ?_
      | refine cw_block ?_
      | refine cw_skip ?_
      | refine cw_region ?_
      | refine cw_exit rfl ?_
      | refine cw_true rfl ?_
      | refine cw_false rfl ?_)
    refine x_load rfl rfl (hpmk rfl (fun _ hk => hk.cel c4 (fun h => h))) rfl (okq_load rfl rfl (by assumption)) ?_
    repeat (first
      | refine x_move rfl rfl rfl (okq_reg rfl rfl) ?_
      | refine x_assign rfl rfl rfl (okq_reg rfl rfl) ?_
      | refine x_add rfl rfl rfl (wrap_i64 (by omega) (by omega)) rfl (okq_reg rfl rfl) ?_
      | refine x_sub_ rfl rfl rfl (wrap_i64 (by omega) (by omega)) rfl (okq_reg rfl rfl) ?_
      | refine x_sub_ rfl rfl rfl (wrap_u32 (by omega) (by omega)) rfl (okq_reg rfl rfl) ?_
      | refine x_mul rfl rfl rfl (wrap_i64 (by omega) (by omega)) rfl (okq_reg rfl rfl) ?_
      | refine x_ibin rfl rfl rfl rfl rfl (okq_reg rfl rfl) ?_
      | refine x_len rfl rfl (by assumption) rfl (okq_reg rfl rfl) ?_
      | refine x_pick_t rfl rfl rfl rfl (okq_reg rfl rfl) ?_
      | refine x_pick_f rfl rfl rfl rfl (okq_reg rfl rfl) ?_
      | refine x_not rfl rfl rfl (okq_reg rfl rfl) ?_
      | refine x_extract rfl rfl rfl rfl (okq_reg rfl rfl) ?_
      | refine x_nilCheck rfl rfl rfl (okq_reg rfl rfl) ?_
      | refine x_fieldAddr rfl rfl rfl rfl (okq_reg rfl rfl) ?_
      | refine x_skip (okq_reg rfl rfl) rfl rfl rfl ?_
      | refine x_indexAddr1 rfl rfl rfl (by assumption) (by omega) (by omega) rfl (okq_reg rfl rfl) ?_
      | refine x_indexAddr rfl rfl rfl (by assumption) (by omega) (by omega) rfl (okq_reg rfl rfl) ?_
      | refine x_nil ?_
      | refine cw_seq ?_
      | refine nw_seq ?_
      | refine nw_block ?_
      | refine cw_block ?_
      | refine cw_skip ?_
      | refine cw_region ?_
      | refine cw_exit rfl ?_
      | refine cw_true rfl ?_
      | refine cw_false rfl ?_)
    refine x_load rfl rfl (hpmk rfl (fun _ hk => hk.cel c0 (fun h => h))) rfl (okq_load rfl rfl (by assumption)) ?_
    repeat (first
      | refine x_move rfl rfl rfl (okq_reg rfl rfl) ?_
      | refine x_assign rfl rfl rfl (okq_reg rfl rfl) ?_
      | refine x_add rfl rfl rfl (wrap_i64 (by omega) (by omega)) rfl (okq_reg rfl rfl) ?_
      | refine x_sub_ rfl rfl rfl (wrap_i64 (by omega) (by omega)) rfl (okq_reg rfl rfl) ?_
      | refine x_sub_ rfl rfl rfl (wrap_u32 (by omega) (by omega)) rfl (okq_reg rfl rfl) ?_
      | refine x_mul rfl rfl rfl (wrap_i64 (by omega) (by omega)) rfl (okq_reg rfl rfl) ?_
      | refine x_ibin rfl rfl rfl rfl rfl (okq_reg rfl rfl) ?_
      | refine x_len rfl rfl (by assumption) rfl (okq_reg rfl rfl) ?_
      | refine x_pick_t rfl rfl rfl rfl (okq_reg rfl rfl) ?_
      | refine x_pick_f rfl rfl rfl rfl (okq_reg rfl rfl) ?_
      | refine x_not rfl rfl rfl (okq_reg rfl rfl) ?_
      | refine x_extract rfl rfl rfl rfl (okq_reg rfl rfl) ?_
      | refine x_nilCheck rfl rfl rfl (okq_reg rfl rfl) ?_
      | refine x_fieldAddr rfl rfl rfl rfl (okq_reg rfl rfl) ?_
      | refine x_skip (okq_reg rfl rfl) rfl rfl rfl ?_
      | refine x_indexAddr1 rfl rfl rfl (by assumption) (by omega) (by omega) rfl (okq_reg rfl rfl) ?_
      | refine x_indexAddr rfl rfl rfl (by assumption) (by omega) (by omega) rfl (okq_reg rfl rfl) ?_
      | refine x_nil ?_
      | refine cw_seq ?_
      | refine nw_seq ?_
      | refine nw_block ?_
      | refine cw_block ?_
      | refine cw_skip ?_
      | refine cw_region ?_
      | refine cw_exit rfl ?_
      | refine cw_true rfl ?_
      | refine cw_false rfl ?_)
    refine x_load rfl rfl (hpmk rfl (fun _ hk => hk.cel hc0 (fun h => h))) rfl (okq_load rfl rfl (by assumption)) ?_
    repeat (first
      | refine x_move rfl rfl rfl (okq_reg rfl rfl) ?_
      | refine x_assign rfl rfl rfl (okq_reg rfl rfl) ?_
      | refine x_add rfl rfl rfl (wrap_i64 (by omega) (by omega)) rfl (okq_reg rfl rfl) ?_
      | refine x_sub_ rfl rfl rfl (wrap_i64 (by omega) (by omega)) rfl (okq_reg rfl rfl) ?_
      | refine x_sub_ rfl rfl rfl (wrap_u32 (by omega) (by omega)) rfl (okq_reg rfl rfl) ?_
      | refine x_mul rfl rfl rfl (wrap_i64 (by omega) (by omega)) rfl (okq_reg rfl rfl) ?_
      | refine x_ibin rfl rfl rfl rfl rfl (okq_reg rfl rfl) ?_
      | refine x_len rfl rfl (by assumption) rfl (okq_reg rfl rfl) ?_
      | refine x_pick_t rfl rfl rfl rfl (okq_reg rfl rfl) ?_
      | refine x_pick_f rfl rfl rfl rfl (okq_reg rfl rfl) ?_
      | refine x_not rfl rfl rfl (okq_reg rfl rfl) ?_
      | refine x_extract rfl rfl rfl rfl (okq_reg rfl rfl) ?_
      | refine x_nilCheck rfl rfl rfl (okq_reg rfl rfl) ?_
      | refine x_fieldAddr rfl rfl rfl rfl (okq_reg rfl rfl) ?_
      | refine x_skip (okq_reg rfl rfl) rfl rfl rfl ?_
      | refine x_indexAddr1 rfl rfl rfl (by assumption) (by omega) (by omega) rfl (okq_reg rfl rfl) ?_
      | refine x_indexAddr rfl rfl rfl (by assumption) (by omega) (by omega) rfl (okq_reg rfl rfl) ?_
      | refine x_nil ?_
      | refine cw_seq ?_
      | refine nw_seq ?_
      | refine nw_block ?_
      | refine cw_block ?_
      | refine cw_skip ?_
      | refine cw_region ?_
      | refine cw_exit rfl ?_
      | refine cw_true rfl ?_
      | refine cw_false rfl ?_)
    refine x_store rfl rfl rfl rfl h1 (by simp) ⟨rfl, rfl⟩ ?_
    intro H1 hB1 hk1 hs1
    refine ⟨okm_free (fun c => by cases c <;> kernel_rfl), ?_⟩
    repeat (first
      | refine x_move rfl rfl rfl (okq_reg rfl rfl) ?_
      | refine x_assign rfl rfl rfl (okq_reg rfl rfl) ?_
      | refine x_add rfl rfl rfl (wrap_i64 (by omega) (by omega)) rfl (okq_reg rfl rfl) ?_
      | refine x_sub_ rfl rfl rfl (wrap_i64 (by omega) (by omega)) rfl (okq_reg rfl rfl) ?_
      | refine x_sub_ rfl rfl rfl (wrap_u32 (by omega) (by omega)) rfl (okq_reg rfl rfl) ?_
      | refine x_mul rfl rfl rfl (wrap_i64 (by omega) (by omega)) rfl (okq_reg rfl rfl) ?_
      | refine x_ibin rfl rfl rfl rfl rfl (okq_reg rfl rfl) ?_
      | refine x_len rfl rfl (by assumption) rfl (okq_reg rfl rfl) ?_
      | refine x_pick_t rfl rfl rfl rfl (okq_reg rfl rfl) ?_
      | refine x_pick_f rfl rfl rfl rfl (okq_reg rfl rfl) ?_
      | refine x_not rfl rfl rfl (okq_reg rfl rfl) ?_
      | refine x_extract rfl rfl rfl rfl (okq_reg rfl rfl) ?_
      | refine x_nilCheck rfl rfl rfl (okq_reg rfl rfl) ?_
      | refine x_fieldAddr rfl rfl rfl rfl (okq_reg rfl rfl) ?_
      | refine x_skip (okq_reg rfl rfl) rfl rfl rfl ?_
      | refine x_indexAddr1 rfl rfl rfl (by assumption) (by omega) (by omega) rfl (okq_reg rfl rfl) ?_
      | refine x_indexAddr rfl rfl rfl (by assumption) (by omega) (by omega) rfl (okq_reg rfl rfl) ?_
      | refine x_nil ?_
      | refine cw_seq ?_
      | refine nw_seq ?_
      | refine nw_block ?_
      | refine cw_block ?_
      | refine cw_skip ?_
      | refine cw_region ?_
      | refine cw_exit rfl ?_
      | refine cw_true rfl ?_
      | refine cw_false rfl ?_)
    have c01 : cel H1 b 0 = some vs := by rw [hB1.cel]; rfl
    have c11 : cel H1 b 1 = some vt := by rw [hB1.cel]; rfl
    have hr1 := Keep.refl Non H1
    have hS1 := bss_keep (h2.keep hk1 (fun _ e => hneb e.symm)) hk1 (fun x hx e => by rw [e, k1] at hx; omega)
    have hT1 := h4.keep hk1 (fun _ e => hnet e.symm)
    obtain ⟨r, hB, hr, hx1⟩ := hS1.put1 (j := h) (k := 0) encS_len (by omega) (by rw [e1]; omega)
    obtain ⟨_, _, _, hput⟩ := hx1 _ gS
    rw [Nat.mul_one, Nat.add_zero] at hr hput
    repeat (first
      | refine x_move rfl rfl rfl trivial ?_
      | refine x_assign rfl rfl rfl trivial ?_
      | refine x_add rfl rfl rfl (wrap_i64 (by omega) (by omega)) rfl trivial ?_
      | refine x_sub_ rfl rfl rfl (wrap_i64 (by omega) (by omega)) rfl trivial ?_
      | refine x_sub_ rfl rfl rfl (wrap_u32 (by omega) (by omega)) rfl trivial ?_
      | refine x_add rfl rfl rfl (wrap_u32 (by omega) (by omega)) rfl trivial ?_
      | refine x_peqn rfl rfl rfl rfl trivial ?_
      | refine x_pnen rfl rfl rfl rfl trivial ?_
      | refine x_mul rfl rfl rfl (wrap_i64 (by omega) (by omega)) rfl trivial ?_
      | refine x_ibin rfl rfl rfl rfl rfl trivial ?_
      | refine x_neg_ rfl rfl (wrap_i64 (by omega) (by omega)) rfl trivial ?_
      | refine x_len rfl rfl (by assumption) rfl trivial ?_
      | refine x_pick_t rfl rfl rfl rfl trivial ?_
      | refine x_pick_f rfl rfl rfl rfl trivial ?_
      | refine x_not rfl rfl rfl trivial ?_
      | refine x_beq rfl rfl rfl rfl trivial ?_
      | refine x_bne rfl rfl rfl rfl trivial ?_
      | refine x_extract rfl rfl rfl rfl trivial ?_
      | refine x_nilCheck rfl rfl rfl trivial ?_
      | refine x_fieldAddr rfl rfl rfl rfl trivial ?_
      | refine x_skip trivial rfl rfl rfl ?_
      | refine x_indexAddr1 rfl rfl rfl (by assumption) (by omega) (by omega) rfl trivial ?_
      | refine x_indexAddr rfl rfl rfl (by assumption) (by omega) (by omega) rfl trivial ?_
      | refine x_nil ?_
      | refine cw_seq ?_
      | refine nw_seq ?_
      | refine nw_block ?_
      | refine cw_block ?_
      | refine cw_skip ?_
      | refine cw_region ?_
      | refine cw_exit rfl ?_
      | refine cw_true rfl ?_
      | refine cw_false rfl ?_)
    refine cw_held (fun _ => Keep Non H1) ⟨[11, 13], [(3, 0), (8, 0)]⟩ (.op 0 (.op 1 (.op 2 (.op 3 (.op 4 (.op 5 (.op 6 (.op 7 (.op 8 (.op 9 (.op 10 (.op 11 (.op 12 (.op 13 (.nil))))))))))))))) panicOk_body mixed (by kernel_rfl) ?_
    repeat (first
      | refine x_move rfl rfl rfl (okq_reg rfl rfl) ?_
      | refine x_assign rfl rfl rfl (okq_reg rfl rfl) ?_
      | refine x_add rfl rfl rfl (wrap_i64 (by omega) (by omega)) rfl (okq_reg rfl rfl) ?_
      | refine x_sub_ rfl rfl rfl (wrap_i64 (by omega) (by omega)) rfl (okq_reg rfl rfl) ?_
      | refine x_sub_ rfl rfl rfl (wrap_u32 (by omega) (by omega)) rfl (okq_reg rfl rfl) ?_
      | refine x_mul rfl rfl rfl (wrap_i64 (by omega) (by omega)) rfl (okq_reg rfl rfl) ?_
      | refine x_ibin rfl rfl rfl rfl rfl (okq_reg rfl rfl) ?_
      | refine x_len rfl rfl (by assumption) rfl (okq_reg rfl rfl) ?_
      | refine x_pick_t rfl rfl rfl rfl (okq_reg rfl rfl) ?_
      | refine x_pick_f rfl rfl rfl rfl (okq_reg rfl rfl) ?_
      | refine x_not rfl rfl rfl (okq_reg rfl rfl) ?_
      | refine x_extract rfl rfl rfl rfl (okq_reg rfl rfl) ?_
      | refine x_nilCheck rfl rfl rfl (okq_reg rfl rfl) ?_
      | refine x_fieldAddr rfl rfl rfl rfl (okq_reg rfl rfl) ?_
      | refine x_skip (okq_reg rfl rfl) rfl rfl rfl ?_
      | refine x_indexAddr1 rfl rfl rfl (by assumption) (by omega) (by omega) rfl (okq_reg rfl rfl) ?_
      | refine x_indexAddr rfl rfl rfl (by assumption) (by omega) (by omega) rfl (okq_reg rfl rfl) ?_
      | refine x_nil ?_
      | refine cw_seq ?_
      | refine nw_seq ?_
      | refine nw_block ?_
      | refine cw_block ?_
      | refine cw_skip ?_
      | refine cw_region ?_
      | refine cw_exit rfl ?_
      | refine cw_true rfl ?_
      | refine cw_false rfl ?_)
    refine x_load rfl rfl (hpmk rfl (fun _ hk => hk.cel c01 (fun h => h))) rfl (okq_load rfl rfl (by assumption)) ?_
    repeat (first
      | refine x_move rfl rfl rfl (okq_reg rfl rfl) ?_
      | refine x_assign rfl rfl rfl (okq_reg rfl rfl) ?_
      | refine x_add rfl rfl rfl (wrap_i64 (by omega) (by omega)) rfl (okq_reg rfl rfl) ?_
      | refine x_sub_ rfl rfl rfl (wrap_i64 (by omega) (by omega)) rfl (okq_reg rfl rfl) ?_
      | refine x_sub_ rfl rfl rfl (wrap_u32 (by omega) (by omega)) rfl (okq_reg rfl rfl) ?_
      | refine x_mul rfl rfl rfl (wrap_i64 (by omega) (by omega)) rfl (okq_reg rfl rfl) ?_
      | refine x_ibin rfl rfl rfl rfl rfl (okq_reg rfl rfl) ?_
      | refine x_len rfl rfl (by assumption) rfl (okq_reg rfl rfl) ?_
      | refine x_pick_t rfl rfl rfl rfl (okq_reg rfl rfl) ?_
      | refine x_pick_f rfl rfl rfl rfl (okq_reg rfl rfl) ?_
      | refine x_not rfl rfl rfl (okq_reg rfl rfl) ?_
      | refine x_extract rfl rfl rfl rfl (okq_reg rfl rfl) ?_
      | refine x_nilCheck rfl rfl rfl (okq_reg rfl rfl) ?_
      | refine x_fieldAddr rfl rfl rfl rfl (okq_reg rfl rfl) ?_
      | refine x_skip (okq_reg rfl rfl) rfl rfl rfl ?_
      | refine x_indexAddr1 rfl rfl rfl (by assumption) (by omega) (by omega) rfl (okq_reg rfl rfl) ?_
      | refine x_indexAddr rfl rfl rfl (by assumption) (by omega) (by omega) rfl (okq_reg rfl rfl) ?_
      | refine x_nil ?_
      | refine cw_seq ?_
      | refine nw_seq ?_
      | refine nw_block ?_
      | refine cw_block ?_
      | refine cw_skip ?_
      | refine cw_region ?_
      | refine cw_exit rfl ?_
      | refine cw_true rfl ?_
      | refine cw_false rfl ?_)
    refine x_load rfl rfl (hpmk rfl (fun _ hk => hk.cel c11 (fun h => h))) rfl (okq_load rfl rfl (by assumption)) ?_
    repeat (first
      | refine x_move rfl rfl rfl (okq_reg rfl rfl) ?_
      | refine x_assign rfl rfl rfl (okq_reg rfl rfl) ?_
      | refine x_add rfl rfl rfl (wrap_i64 (by omega) (by omega)) rfl (okq_reg rfl rfl) ?_
      | refine x_sub_ rfl rfl rfl (wrap_i64 (by omega) (by omega)) rfl (okq_reg rfl rfl) ?_
      | refine x_sub_ rfl rfl rfl (wrap_u32 (by omega) (by omega)) rfl (okq_reg rfl rfl) ?_
      | refine x_mul rfl rfl rfl (wrap_i64 (by omega) (by omega)) rfl (okq_reg rfl rfl) ?_
      | refine x_ibin rfl rfl rfl rfl rfl (okq_reg rfl rfl) ?_
      | refine x_len rfl rfl (by assumption) rfl (okq_reg rfl rfl) ?_
      | refine x_pick_t rfl rfl rfl rfl (okq_reg rfl rfl) ?_
      | refine x_pick_f rfl rfl rfl rfl (okq_reg rfl rfl) ?_
      | refine x_not rfl rfl rfl (okq_reg rfl rfl) ?_
      | refine x_extract rfl rfl rfl rfl (okq_reg rfl rfl) ?_
      | refine x_nilCheck rfl rfl rfl (okq_reg rfl rfl) ?_
      | refine x_fieldAddr rfl rfl rfl rfl (okq_reg rfl rfl) ?_
      | refine x_skip (okq_reg rfl rfl) rfl rfl rfl ?_
      | refine x_indexAddr1 rfl rfl rfl (by assumption) (by omega) (by omega) rfl (okq_reg rfl rfl) ?_
      | refine x_indexAddr rfl rfl rfl (by assumption) (by omega) (by omega) rfl (okq_reg rfl rfl) ?_
      | refine x_nil ?_
      | refine cw_seq ?_
      | refine nw_seq ?_
      | refine nw_block ?_
      | refine cw_block ?_
      | refine cw_skip ?_
      | refine cw_region ?_
      | refine cw_exit rfl ?_
      | refine cw_true rfl ?_
      | refine cw_false rfl ?_)
    refine x_store rfl rfl rfl rfl hB hr ⟨rfl, rfl⟩ ?_
    intro H2 hB2 hk2 hs2
    refine ⟨okm_free (fun c => by cases c <;> kernel_rfl), ?_⟩
    have hS2 := bss_keep (hput H2 (.slice none 0 0) [] _ rfl ⟨Bs.nil _, fun h => absurd rfl h⟩ hB2) hk2 (fun x hx e => by rw [e, h3] at hx; omega)
    have hT2 := hT1.keep hk2 (fun _ e => hnst e.symm)
    obtain ⟨r2, hBt, hrt, hxt⟩ := hT2.put1 (j := h) (k := 0) encB_len (by omega) (by rw [e2]; omega)
    obtain ⟨_, _, _, hputt⟩ := hxt _ (tB_get (by omega))
    rw [Nat.mul_one, Nat.add_zero] at hrt hputt
    repeat (first
      | refine x_move rfl rfl rfl (okq_reg rfl rfl) ?_
      | refine x_assign rfl rfl rfl (okq_reg rfl rfl) ?_
      | refine x_add rfl rfl rfl (wrap_i64 (by omega) (by omega)) rfl (okq_reg rfl rfl) ?_
      | refine x_sub_ rfl rfl rfl (wrap_i64 (by omega) (by omega)) rfl (okq_reg rfl rfl) ?_
      | refine x_sub_ rfl rfl rfl (wrap_u32 (by omega) (by omega)) rfl (okq_reg rfl rfl) ?_
      | refine x_mul rfl rfl rfl (wrap_i64 (by omega) (by omega)) rfl (okq_reg rfl rfl) ?_
      | refine x_ibin rfl rfl rfl rfl rfl (okq_reg rfl rfl) ?_
      | refine x_len rfl rfl (by assumption) rfl (okq_reg rfl rfl) ?_
      | refine x_pick_t rfl rfl rfl rfl (okq_reg rfl rfl) ?_
      | refine x_pick_f rfl rfl rfl rfl (okq_reg rfl rfl) ?_
      | refine x_not rfl rfl rfl (okq_reg rfl rfl) ?_
      | refine x_extract rfl rfl rfl rfl (okq_reg rfl rfl) ?_
      | refine x_nilCheck rfl rfl rfl (okq_reg rfl rfl) ?_
      | refine x_fieldAddr rfl rfl rfl rfl (okq_reg rfl rfl) ?_
      | refine x_skip (okq_reg rfl rfl) rfl rfl rfl ?_
      | refine x_indexAddr1 rfl rfl rfl (by assumption) (by omega) (by omega) rfl (okq_reg rfl rfl) ?_
      | refine x_indexAddr rfl rfl rfl (by assumption) (by omega) (by omega) rfl (okq_reg rfl rfl) ?_
      | refine x_nil ?_
      | refine cw_seq ?_
      | refine nw_seq ?_
      | refine nw_block ?_
      | refine cw_block ?_
      | refine cw_skip ?_
      | refine cw_region ?_
      | refine cw_exit rfl ?_
      | refine cw_true rfl ?_
      | refine cw_false rfl ?_)
    refine x_store rfl rfl rfl rfl hBt hrt ⟨rfl, rfl⟩ ?_
    intro H3 hB3 hk3 hs3
    refine ⟨okm_free (fun c => by cases c <;> kernel_rfl), ?_⟩
    have hS3 := bss_keep (hS2.keep hk3 (fun _ e => hnst e)) hk3 (fun x hx e => by rw [e, h5] at hx; omega)
    have hT3 := hputt H3 false false _ rfl rfl hB3
    have hb3 := (hB1.keep hk2 hneb).keep hk3 hnet
    have c23 : cel H3 b 2 = some vb := by rw [hb3.cel]; rfl
    have hV3 := ((h6.keep hk1 (fun hc => (hnv hc).1)).keep hk2 (fun hc => (hnv hc).2.1)).keep hk3 (fun hc => (hnv hc).2.2)
    repeat (first
      | refine x_move rfl rfl rfl (okq_reg rfl rfl) ?_
      | refine x_assign rfl rfl rfl (okq_reg rfl rfl) ?_
      | refine x_add rfl rfl rfl (wrap_i64 (by omega) (by omega)) rfl (okq_reg rfl rfl) ?_
      | refine x_sub_ rfl rfl rfl (wrap_i64 (by omega) (by omega)) rfl (okq_reg rfl rfl) ?_
      | refine x_sub_ rfl rfl rfl (wrap_u32 (by omega) (by omega)) rfl (okq_reg rfl rfl) ?_
      | refine x_mul rfl rfl rfl (wrap_i64 (by omega) (by omega)) rfl (okq_reg rfl rfl) ?_
      | refine x_ibin rfl rfl rfl rfl rfl (okq_reg rfl rfl) ?_
      | refine x_len rfl rfl (by assumption) rfl (okq_reg rfl rfl) ?_
      | refine x_pick_t rfl rfl rfl rfl (okq_reg rfl rfl) ?_
      | refine x_pick_f rfl rfl rfl rfl (okq_reg rfl rfl) ?_
      | refine x_not rfl rfl rfl (okq_reg rfl rfl) ?_
      | refine x_extract rfl rfl rfl rfl (okq_reg rfl rfl) ?_
      | refine x_nilCheck rfl rfl rfl (okq_reg rfl rfl) ?_
      | refine x_fieldAddr rfl rfl rfl rfl (okq_reg rfl rfl) ?_
      | refine x_skip (okq_reg rfl rfl) rfl rfl rfl ?_
      | refine x_indexAddr1 rfl rfl rfl (by assumption) (by omega) (by omega) rfl (okq_reg rfl rfl) ?_
      | refine x_indexAddr rfl rfl rfl (by assumption) (by omega) (by omega) rfl (okq_reg rfl rfl) ?_
      | refine x_nil ?_
      | refine cw_seq ?_
      | refine nw_seq ?_
      | refine nw_block ?_
      | refine cw_block ?_
      | refine cw_skip ?_
      | refine cw_region ?_
      | refine cw_exit rfl ?_
      | refine cw_true rfl ?_
      | refine cw_false rfl ?_)
    repeat (first
      | refine x_move rfl rfl rfl trivial ?_
      | refine x_assign rfl rfl rfl trivial ?_
      | refine x_add rfl rfl rfl (wrap_i64 (by omega) (by omega)) rfl trivial ?_
      | refine x_sub_ rfl rfl rfl (wrap_i64 (by omega) (by omega)) rfl trivial ?_
      | refine x_sub_ rfl rfl rfl (wrap_u32 (by omega) (by omega)) rfl trivial ?_
      | refine x_add rfl rfl rfl (wrap_u32 (by omega) (by omega)) rfl trivial ?_
      | refine x_peqn rfl rfl rfl rfl trivial ?_
      | refine x_pnen rfl rfl rfl rfl trivial ?_
      | refine x_mul rfl rfl rfl (wrap_i64 (by omega) (by omega)) rfl trivial ?_
      | refine x_ibin rfl rfl rfl rfl rfl trivial ?_
      | refine x_neg_ rfl rfl (wrap_i64 (by omega) (by omega)) rfl trivial ?_
      | refine x_len rfl rfl (by assumption) rfl trivial ?_
      | refine x_pick_t rfl rfl rfl rfl trivial ?_
      | refine x_pick_f rfl rfl rfl rfl trivial ?_
      | refine x_not rfl rfl rfl trivial ?_
      | refine x_beq rfl rfl rfl rfl trivial ?_
      | refine x_bne rfl rfl rfl rfl trivial ?_
      | refine x_extract rfl rfl rfl rfl trivial ?_
      | refine x_nilCheck rfl rfl rfl trivial ?_
      | refine x_fieldAddr rfl rfl rfl rfl trivial ?_
      | refine x_skip trivial rfl rfl rfl ?_
      | refine x_indexAddr1 rfl rfl rfl (by assumption) (by omega) (by omega) rfl trivial ?_
      | refine x_indexAddr rfl rfl rfl (by assumption) (by omega) (by omega) rfl trivial ?_
      | refine x_nil ?_
      | refine cw_seq ?_
      | refine nw_seq ?_
      | refine nw_block ?_
      | refine cw_block ?_
      | refine cw_skip ?_
      | refine cw_region ?_
      | refine cw_exit rfl ?_
      | refine cw_true rfl ?_
      | refine cw_false rfl ?_)
    refine x_load rfl rfl (hpmt (c23)) rfl trivial ?_
    repeat (first
      | refine x_move rfl rfl rfl trivial ?_
      | refine x_assign rfl rfl rfl trivial ?_
      | refine x_add rfl rfl rfl (wrap_i64 (by omega) (by omega)) rfl trivial ?_
      | refine x_sub_ rfl rfl rfl (wrap_i64 (by omega) (by omega)) rfl trivial ?_
      | refine x_sub_ rfl rfl rfl (wrap_u32 (by omega) (by omega)) rfl trivial ?_
      | refine x_add rfl rfl rfl (wrap_u32 (by omega) (by omega)) rfl trivial ?_
      | refine x_peqn rfl rfl rfl rfl trivial ?_
      | refine x_pnen rfl rfl rfl rfl trivial ?_
      | refine x_mul rfl rfl rfl (wrap_i64 (by omega) (by omega)) rfl trivial ?_
      | refine x_ibin rfl rfl rfl rfl rfl trivial ?_
      | refine x_neg_ rfl rfl (wrap_i64 (by omega) (by omega)) rfl trivial ?_
      | refine x_len rfl rfl (by assumption) rfl trivial ?_
      | refine x_pick_t rfl rfl rfl rfl trivial ?_
      | refine x_pick_f rfl rfl rfl rfl trivial ?_
      | refine x_not rfl rfl rfl trivial ?_
      | refine x_beq rfl rfl rfl rfl trivial ?_
      | refine x_bne rfl rfl rfl rfl trivial ?_
      | refine x_extract rfl rfl rfl rfl trivial ?_
      | refine x_nilCheck rfl rfl rfl trivial ?_
      | refine x_fieldAddr rfl rfl rfl rfl trivial ?_
      | refine x_skip trivial rfl rfl rfl ?_
      | refine x_indexAddr1 rfl rfl rfl (by assumption) (by omega) (by omega) rfl trivial ?_
      | refine x_indexAddr rfl rfl rfl (by assumption) (by omega) (by omega) rfl trivial ?_
      | refine x_nil ?_
      | refine cw_seq ?_
      | refine nw_seq ?_
      | refine nw_block ?_
      | refine cw_block ?_
      | refine cw_skip ?_
      | refine cw_region ?_
      | refine cw_exit rfl ?_
      | refine cw_true rfl ?_
      | refine cw_false rfl ?_)
    refine x_buildSlice rfl rfl rfl rfl (by omega) (by simp [oneC, Value.oneCell']) rfl trivial ?_
    intro H4 hn4
    refine ⟨trivial, ?_⟩
    obtain ⟨q, hq1, hq2⟩ := (hV3.keepN hn4.keep).row
    refine x_append (v := vb) (by rfl) (by rfl) (by rfl) rfl rfl rfl hq2 (isSl_some (Nat.le_refl _) (by omega)) (m := 1) (cx := rws encU [h]) rfl (hn4.blk.cels 0 1 (by simp)) (rws_oneC (by simp [encU, oneC, Value.oneCell'])) (by omega) rfl trivial ?_
    intro v5 H5 hap
    refine ⟨trivial, ?_⟩
    have hV5 : Rw encU 1 Eq H5 v5 (p.back ++ [h]) := Rw.app hq1 rfl (Al.one rfl) (fun _ _ h => h) hap
    have hs03 : H.size = H3.size := by omega
    have ar := app_role (K := K) hap (by omega) (hS.kin.mono (by have := hn4.keep.size; omega)) h7
    have hnr : ∀ x, K x ≠ 0 → K x ≠ 3 → ¬ (x = sb vb ∧ 0 < sc vb) := ar.role
    have hb5 := (hb3.keep hn4.keep (fun h => h)).keep ar.keep (hnr b (by omega) (by omega))
    repeat (first
      | refine x_move rfl rfl rfl trivial ?_
      | refine x_assign rfl rfl rfl trivial ?_
      | refine x_add rfl rfl rfl (wrap_i64 (by omega) (by omega)) rfl trivial ?_
      | refine x_sub_ rfl rfl rfl (wrap_i64 (by omega) (by omega)) rfl trivial ?_
      | refine x_sub_ rfl rfl rfl (wrap_u32 (by omega) (by omega)) rfl trivial ?_
      | refine x_add rfl rfl rfl (wrap_u32 (by omega) (by omega)) rfl trivial ?_
      | refine x_peqn rfl rfl rfl rfl trivial ?_
      | refine x_pnen rfl rfl rfl rfl trivial ?_
      | refine x_mul rfl rfl rfl (wrap_i64 (by omega) (by omega)) rfl trivial ?_
      | refine x_ibin rfl rfl rfl rfl rfl trivial ?_
      | refine x_neg_ rfl rfl (wrap_i64 (by omega) (by omega)) rfl trivial ?_
      | refine x_len rfl rfl (by assumption) rfl trivial ?_
      | refine x_pick_t rfl rfl rfl rfl trivial ?_
      | refine x_pick_f rfl rfl rfl rfl trivial ?_
      | refine x_not rfl rfl rfl trivial ?_
      | refine x_beq rfl rfl rfl rfl trivial ?_
      | refine x_bne rfl rfl rfl rfl trivial ?_
      | refine x_extract rfl rfl rfl rfl trivial ?_
      | refine x_nilCheck rfl rfl rfl trivial ?_
      | refine x_fieldAddr rfl rfl rfl rfl trivial ?_
      | refine x_skip trivial rfl rfl rfl ?_
      | refine x_indexAddr1 rfl rfl rfl (by assumption) (by omega) (by omega) rfl trivial ?_
      | refine x_indexAddr rfl rfl rfl (by assumption) (by omega) (by omega) rfl trivial ?_
      | refine x_nil ?_
      | refine cw_seq ?_
      | refine nw_seq ?_
      | refine nw_block ?_
      | refine cw_block ?_
      | refine cw_skip ?_
      | refine cw_region ?_
      | refine cw_exit rfl ?_
      | refine cw_true rfl ?_
      | refine cw_false rfl ?_)
    refine x_store rfl rfl rfl (isSl_oneC hV5.sl) hb5 (by simp) trivial ?_
    intro H6 hB6 hk6 hs6
    refine ⟨trivial, ?_⟩
    repeat (first
      | refine x_move rfl rfl rfl trivial ?_
      | refine x_assign rfl rfl rfl trivial ?_
      | refine x_add rfl rfl rfl (wrap_i64 (by omega) (by omega)) rfl trivial ?_
      | refine x_sub_ rfl rfl rfl (wrap_i64 (by omega) (by omega)) rfl trivial ?_
      | refine x_sub_ rfl rfl rfl (wrap_u32 (by omega) (by omega)) rfl trivial ?_
      | refine x_add rfl rfl rfl (wrap_u32 (by omega) (by omega)) rfl trivial ?_
      | refine x_peqn rfl rfl rfl rfl trivial ?_
      | refine x_pnen rfl rfl rfl rfl trivial ?_
      | refine x_mul rfl rfl rfl (wrap_i64 (by omega) (by omega)) rfl trivial ?_
      | refine x_ibin rfl rfl rfl rfl rfl trivial ?_
      | refine x_neg_ rfl rfl (wrap_i64 (by omega) (by omega)) rfl trivial ?_
      | refine x_len rfl rfl (by assumption) rfl trivial ?_
      | refine x_pick_t rfl rfl rfl rfl trivial ?_
      | refine x_pick_f rfl rfl rfl rfl trivial ?_
      | refine x_not rfl rfl rfl trivial ?_
      | refine x_beq rfl rfl rfl rfl trivial ?_
      | refine x_bne rfl rfl rfl rfl trivial ?_
      | refine x_extract rfl rfl rfl rfl trivial ?_
      | refine x_nilCheck rfl rfl rfl trivial ?_
      | refine x_fieldAddr rfl rfl rfl rfl trivial ?_
      | refine x_skip trivial rfl rfl rfl ?_
      | refine x_indexAddr1 rfl rfl rfl (by assumption) (by omega) (by omega) rfl trivial ?_
      | refine x_indexAddr rfl rfl rfl (by assumption) (by omega) (by omega) rfl trivial ?_
      | refine x_nil ?_
      | refine cw_seq ?_
      | refine nw_seq ?_
      | refine nw_block ?_
      | refine cw_block ?_
      | refine cw_skip ?_
      | refine cw_region ?_
      | refine cw_exit rfl ?_
      | refine cw_true rfl ?_
      | refine cw_false rfl ?_)
    have kb : K.set (sb v5) 3 b = 1 := by rw [ar.same b (by omega)]; exact k1
    have ks : K.set (sb v5) 3 (sb vs) = 2 := by rw [ar.same _ (by omega)]; exact h3
    have kt : K.set (sb v5) 3 (sb vt) = 5 := by rw [ar.same _ (by omega)]; exact h5
    have hs45 := ar.keep.size
    have hs34 := hn4.keep.size
    have k06 : Keep (MutQ K) H H6 := by
      refine (((((hk1.mono fun x _ e => ?_).step hk2 fun x _ e => ?_).step hk3 fun x _ e => ?_).step hn4.keep fun x _ e => e.elim).step ar.keep fun x _ e => ?_).step hk6 fun x _ e => ?_
      · exact .inl (by rw [e]; exact k1)
      · exact .inr (.inl (by rw [e]; exact h3))
      · exact .inr (.inr (.inr (by rw [e]; exact h5)))
      · exact .inr (.inr (.inl (by rw [e.1]; exact h7 e.2)))
      · exact .inl (by rw [e]; exact k1)
    refine cw_ret1 rfl rfl ⟨rfl, k06, K.set (sb v5) 3, ⟨fun x hx => ar.old x (by omega), by omega⟩, ar.kin.mono (by omega), kb, vs, vt, v5, hB6, ?_, ks, ?_, kt, hV5.keep hk6 (fun _ e => by have := congrArg (K.set (sb v5) 3) e; rw [ar.at_, kb] at this; omega), fun _ => ar.at_⟩
    · rw [tS_set p h _ _ _ _ _ g1]
      have t5 := bss_keep ((bss_keep (hS3.keepN hn4.keep) hn4.keep (fun _ _ h => h)).keep ar.keep (fun _ => hnr _ (by omega) (by omega))) ar.keep (fun x hx => hnr x (by omega) (by omega))
      exact (t5.keep hk6 (fun _ e => hneb e.symm)).mono fun x y hxy => hxy.keep hk6 (fun x hx e => by rw [e, k1] at hx; omega) (fun x hx => by rw [ar.same x (by omega)]; exact hx)
    · rw [tB_set p h _ _ _ _ _ g1]
      exact ((hT3.keepN hn4.keep).keep ar.keep (fun _ => hnr _ (by omega) (by omega))).keep hk6 (fun _ e => hnet e.symm)
/-- a pool, part by part -/
structure Mid (K : Role) (H : Heap) (b : Nat) (vs vt vb : Value) (cs : List Value) (lS : List Bytes) (lB : List Bool) (bk : List Nat) : Prop where
  kin : K.In H
  kb : K b = 1
  hb : Blk H b cs
  hS : Rw encS 1 (BsR K H) H vs lS
  ks : 0 < sc vs → K (sb vs) = 2
  hT : Rw encB 1 Eq H vt lB
  kt : 0 < sc vt → K (sb vt) = 5
  hV : Rw encU 1 Eq H vb bk
  kv : 0 < sc vb → K (sb vb) = 3
section mid
variable {K : Role} {H H' : Heap} {b : Nat} {vs vt vb : Value} {cs : List Value} {lS : List Bytes} {lB : List Bool} {bk : List Nat}
theorem Mid.keep {S : Nat → Prop} (h : Mid K H b vs vt vb cs lS lB bk) (k : Keep S H H') (hS : ∀ x, K x ≠ 0 → ¬ S x) : Mid K H' b vs vt vb cs lS lB bk :=
  ⟨h.kin.mono k.size, h.kb, h.hb.keep k (hS b (by rw [h.kb]; omega)), bss_keep (h.hS.keep k (fun hc => hS _ (by rw [h.ks hc]; omega))) k (fun x hx => hS x (by omega)), h.ks,
    h.hT.keep k (fun hc => hS _ (by rw [h.kt hc]; omega)), h.kt, h.hV.keep k (fun hc => hS _ (by rw [h.kv hc]; omega)), h.kv⟩
theorem Mid.new (h : Mid K H b vs vt vb cs lS lB bk) {l : List Value} (n : New H H' l) : Mid K H' b vs vt vb cs lS lB bk := h.keep n.keep (fun _ _ h => h)
theorem Mid.role (h : Mid K H b vs vt vb cs lS lB bk) {K' : Role} (hk : K'.In H) (hs : ∀ x, K x ≠ 0 → K' x = K x) : Mid K' H b vs vt vb cs lS lB bk := by
  refine ⟨hk, by rw [hs b (by rw [h.kb]; omega)]; exact h.kb, h.hb, h.hS.mono fun x y hxy => hxy.keep (Keep.refl Non H) (fun _ _ h => h) (fun x hx => by rw [hs x (by omega)]; exact hx), fun hc => ?_, h.hT, fun hc => ?_, h.hV, fun hc => ?_⟩
  · have := h.ks hc; rw [hs _ (by omega)]; exact this
  · have := h.kt hc; rw [hs _ (by omega)]; exact this
  · have := h.kv hc; rw [hs _ (by omega)]; exact this
theorem Mid.appS (h : Mid K H b vs vt vb cs lS lB bk) {v' w : Value} {l : Bytes} {q : List Value} (hq : Al (BsR K H) q lS) (hw : BsR K H w l) (ap : App 1 H H' vs v' lS.length (rws encS q) (rws encS [w]) 1) :
    Mid (K.set (sb v') 2) H' b v' vt vb cs (lS ++ [l]) lB bk ∧ AppRole K (K.set (sb v') 2) H H' vs v' 2 := by
  have ar := app_role (K := K) (r := 2) ap (by omega) h.kin h.ks
  have hb := ar.same b (by rw [h.kb]; omega)
  refine ⟨⟨ar.kin, by rw [hb]; exact h.kb, h.hb.keep ar.keep (ar.role b (by rw [h.kb]; omega) (by rw [h.kb]; omega)), ?_, fun _ => ar.at_, h.hT.keep ar.keep (fun hc => ar.role _ (by rw [h.kt hc]; omega) (by rw [h.kt hc]; omega)), fun hc => ?_,
    h.hV.keep ar.keep (fun hc => ar.role _ (by rw [h.kv hc]; omega) (by rw [h.kv hc]; omega)), fun hc => ?_⟩, ar⟩
  · exact Rw.app hq rfl (Al.one hw) (fun x y hxy => hxy.keep ar.keep (fun x hx => ar.role x (by omega) (by omega)) (fun x hx => by rw [ar.same x (by omega)]; exact hx)) ap
  · have := h.kt hc; rw [ar.same _ (by omega)]; exact this
  · have := h.kv hc; rw [ar.same _ (by omega)]; exact this
theorem Mid.appT (h : Mid K H b vs vt vb cs lS lB bk) {v' : Value} {l : Bool} {q : List Bool} (hq : Al Eq q lB) (ap : App 1 H H' vt v' lB.length (rws encB q) (rws encB [l]) 1) :
    Mid (K.set (sb v') 5) H' b vs v' vb cs lS (lB ++ [l]) bk ∧ AppRole K (K.set (sb v') 5) H H' vt v' 5 := by
  have ar := app_role (K := K) (r := 5) ap (by omega) h.kin h.kt
  have hb := ar.same b (by rw [h.kb]; omega)
  refine ⟨⟨ar.kin, by rw [hb]; exact h.kb, h.hb.keep ar.keep (ar.role b (by rw [h.kb]; omega) (by rw [h.kb]; omega)), ?_, fun hc => ?_, Rw.app hq rfl (Al.one rfl) (fun _ _ h => h) ap, fun _ => ar.at_,
    h.hV.keep ar.keep (fun hc => ar.role _ (by rw [h.kv hc]; omega) (by rw [h.kv hc]; omega)), fun hc => ?_⟩, ar⟩
  · exact (h.hS.keep ar.keep (fun hc => ar.role _ (by rw [h.ks hc]; omega) (by rw [h.ks hc]; omega))).mono fun x y hxy => hxy.keep ar.keep (fun x hx => ar.role x (by omega) (by omega)) (fun x hx => by rw [ar.same x (by omega)]; exact hx)
  · have := h.ks hc; rw [ar.same _ (by omega)]; exact this
  · have := h.kv hc; rw [ar.same _ (by omega)]; exact this
/-- the pool's own cells are set -/
theorem Mid.own (h : Mid K H b vs vt vb cs lS lB bk) {cs' : List Value} (hB : Blk H' b cs') (k : Keep (· = b) H H') : Mid K H' b vs vt vb cs' lS lB bk := by
  have hne : ∀ x, K x ≠ 1 → ¬ x = b := fun x hx e => hx (by rw [e]; exact h.kb)
  exact ⟨h.kin.mono k.size, h.kb, hB, bss_keep (h.hS.keep k (fun hc => hne _ (by rw [h.ks hc]; omega))) k (fun x hx => hne x (by omega)), h.ks, h.hT.keep k (fun hc => hne _ (by rw [h.kt hc]; omega)), h.kt, h.hV.keep k (fun hc => hne _ (by rw [h.kv hc]; omega)), h.kv⟩
end mid
theorem Sq.mid {K : Role} {H : Heap} {b : Nat} {p : Pl} (h : Sq K H b p) : ∃ vs vt vb, Mid K H b vs vt vb [vs, vt, vb, .int .i64 p.most, .int .i64 p.used] (tS p) (tB p) p.back := by
  obtain ⟨vs, vt, vb, h1, h2, h3, h4, h5, h6, h7⟩ := h.row
  exact ⟨vs, vt, vb, h.kin, h.one, h1, h2, fun _ => h3, h4, fun _ => h5, h6, h7⟩
theorem Mid.sq {K : Role} {H : Heap} {b : Nat} {p : Pl} {vs vt vb : Value} (h : Mid K H b vs vt vb [vs, vt, vb, .int .i64 p.most, .int .i64 p.used] (tS p) (tB p) p.back) : Sq K H b p :=
  ⟨h.kin, h.kb, vs, vt, vb, h.hb, h.hS, h.ks (pos_of' h.hS (by simp [tS])), h.hT, h.kt (pos_of' h.hT (by simp [tB])), h.hV, h.kv⟩

theorem ref6_Put {K : Role} {b : Nat} {vl : Value} {l : Bytes} {p : Pl} {H : Heap} (hS : Sq K H b p) (hw : p.Wf) (hL : Bs H vl l) (hKl : l ≠ [] → K (sb vl) = 0) (hll : l.length ≤ 1000000) (hl : p.tx.length ≤ 1000000) (hbl : p.back.length ≤ 1000000) (hbh : ∀ h ∈ p.back, h < 4294967296) :
    Ret Try.prog 13 [ptr b 0, vl] H (fun v H' => v = .tuple #[.int .u32 (putP p l).1, .int .i64 (putP p l).2.1] ∧ Keep (MutQ K) H H' ∧ ∃ K', K.Ext K' H H' ∧ Sq K' H' b (putP p l).2.2) := by
  have hu := hw.used_le
  have hm := hw.most
  obtain ⟨vs, vt, vb, hM⟩ := hS.mid
  have sL := hL.sl
  have cL := sL.cap
  have c3 : cel H b 3 = some (.int .i64 p.most) := by rw [hM.hb.cel]; rfl
  have c4 : cel H b 4 = some (.int .i64 p.used) := by rw [hM.hb.cel]; rfl
  have k1 := hM.kb
  refine ret_of Try.func13 rfl rfl rfl rfl ?_
  intro w0
  repeat (first
    | refine x_move rfl rfl rfl trivial ?_
    | refine x_assign rfl rfl rfl trivial ?_
    | refine x_add rfl rfl rfl (wrap_i64 (by omega) (by omega)) rfl trivial ?_
    | refine x_sub_ rfl rfl rfl (wrap_i64 (by omega) (by omega)) rfl trivial ?_
    | refine x_sub_ rfl rfl rfl (wrap_u32 (by omega) (by omega)) rfl trivial ?_
    | refine x_add rfl rfl rfl (wrap_u32 (by omega) (by omega)) rfl trivial ?_
    | refine x_peqn rfl rfl rfl rfl trivial ?_
    | refine x_pnen rfl rfl rfl rfl trivial ?_
    | refine x_mul rfl rfl rfl (wrap_i64 (by omega) (by omega)) rfl trivial ?_
    | refine x_ibin rfl rfl rfl rfl rfl trivial ?_
    | refine x_neg_ rfl rfl (wrap_i64 (by omega) (by omega)) rfl trivial ?_
    | refine x_len rfl rfl (by assumption) rfl trivial ?_
    | refine x_pick_t rfl rfl rfl rfl trivial ?_
    | refine x_pick_f rfl rfl rfl rfl trivial ?_
    | refine x_not rfl rfl rfl trivial ?_
    | refine x_beq rfl rfl rfl rfl trivial ?_
    | refine x_bne rfl rfl rfl rfl trivial ?_
    | refine x_extract rfl rfl rfl rfl trivial ?_
    | refine x_nilCheck rfl rfl rfl trivial ?_
    | refine x_fieldAddr rfl rfl rfl rfl trivial ?_
    | refine x_skip trivial rfl rfl rfl ?_
    | refine x_indexAddr1 rfl rfl rfl (by assumption) (by omega) (by omega) rfl trivial ?_
    | refine x_indexAddr rfl rfl rfl (by assumption) (by omega) (by omega) rfl trivial ?_
    | refine x_nil ?_
    | refine cw_seq ?_
    | refine nw_seq ?_
    | refine nw_block ?_
    | refine cw_block ?_
    | refine cw_skip ?_
    | refine cw_region ?_
    | refine cw_exit rfl ?_
    | refine cw_true rfl ?_
    | refine cw_false rfl ?_)
  refine cw_quiet mixed (by kernel_rfl) ?_
  repeat (first
    | refine x_move rfl rfl rfl trivial ?_
    | refine x_assign rfl rfl rfl trivial ?_
    | refine x_add rfl rfl rfl (wrap_i64 (by omega) (by omega)) rfl trivial ?_
    | refine x_sub_ rfl rfl rfl (wrap_i64 (by omega) (by omega)) rfl trivial ?_
    | refine x_sub_ rfl rfl rfl (wrap_u32 (by omega) (by omega)) rfl trivial ?_
    | refine x_add rfl rfl rfl (wrap_u32 (by omega) (by omega)) rfl trivial ?_
    | refine x_peqn rfl rfl rfl rfl trivial ?_
    | refine x_pnen rfl rfl rfl rfl trivial ?_
    | refine x_mul rfl rfl rfl (wrap_i64 (by omega) (by omega)) rfl trivial ?_
    | refine x_ibin rfl rfl rfl rfl rfl trivial ?_
    | refine x_neg_ rfl rfl (wrap_i64 (by omega) (by omega)) rfl trivial ?_
    | refine x_len rfl rfl (by assumption) rfl trivial ?_
    | refine x_pick_t rfl rfl rfl rfl trivial ?_
    | refine x_pick_f rfl rfl rfl rfl trivial ?_
    | refine x_not rfl rfl rfl trivial ?_
    | refine x_beq rfl rfl rfl rfl trivial ?_
    | refine x_bne rfl rfl rfl rfl trivial ?_
    | refine x_extract rfl rfl rfl rfl trivial ?_
    | refine x_nilCheck rfl rfl rfl trivial ?_
    | refine x_fieldAddr rfl rfl rfl rfl trivial ?_
    | refine x_skip trivial rfl rfl rfl ?_
    | refine x_indexAddr1 rfl rfl rfl (by assumption) (by omega) (by omega) rfl trivial ?_
    | refine x_indexAddr rfl rfl rfl (by assumption) (by omega) (by omega) rfl trivial ?_
    | refine x_nil ?_
    | refine cw_seq ?_
    | refine nw_seq ?_
    | refine nw_block ?_
    | refine cw_block ?_
    | refine cw_skip ?_
    | refine cw_region ?_
    | refine cw_exit rfl ?_
    | refine cw_true rfl ?_
    | refine cw_false rfl ?_)
  refine x_load rfl rfl (hpmt (c3)) rfl trivial ?_
  repeat (first
    | refine x_move rfl rfl rfl trivial ?_
    | refine x_assign rfl rfl rfl trivial ?_
    | refine x_add rfl rfl rfl (wrap_i64 (by omega) (by omega)) rfl trivial ?_
    | refine x_sub_ rfl rfl rfl (wrap_i64 (by omega) (by omega)) rfl trivial ?_
    | refine x_sub_ rfl rfl rfl (wrap_u32 (by omega) (by omega)) rfl trivial ?_
    | refine x_add rfl rfl rfl (wrap_u32 (by omega) (by omega)) rfl trivial ?_
    | refine x_peqn rfl rfl rfl rfl trivial ?_
    | refine x_pnen rfl rfl rfl rfl trivial ?_
    | refine x_mul rfl rfl rfl (wrap_i64 (by omega) (by omega)) rfl trivial ?_
    | refine x_ibin rfl rfl rfl rfl rfl trivial ?_
    | refine x_neg_ rfl rfl (wrap_i64 (by omega) (by omega)) rfl trivial ?_
    | refine x_len rfl rfl (by assumption) rfl trivial ?_
    | refine x_pick_t rfl rfl rfl rfl trivial ?_
    | refine x_pick_f rfl rfl rfl rfl trivial ?_
    | refine x_not rfl rfl rfl trivial ?_
    | refine x_beq rfl rfl rfl rfl trivial ?_
    | refine x_bne rfl rfl rfl rfl trivial ?_
    | refine x_extract rfl rfl rfl rfl trivial ?_
    | refine x_nilCheck rfl rfl rfl trivial ?_
    | refine x_fieldAddr rfl rfl rfl rfl trivial ?_
    | refine x_skip trivial rfl rfl rfl ?_
    | refine x_indexAddr1 rfl rfl rfl (by assumption) (by omega) (by omega) rfl trivial ?_
    | refine x_indexAddr rfl rfl rfl (by assumption) (by omega) (by omega) rfl trivial ?_
    | refine x_nil ?_
    | refine cw_seq ?_
    | refine nw_seq ?_
    | refine nw_block ?_
    | refine cw_block ?_
    | refine cw_skip ?_
    | refine cw_region ?_
    | refine cw_exit rfl ?_
    | refine cw_true rfl ?_
    | refine cw_false rfl ?_)
  refine x_load rfl rfl (hpmt (c4)) rfl trivial ?_
  repeat (first
    | refine x_move rfl rfl rfl trivial ?_
    | refine x_assign rfl rfl rfl trivial ?_
    | refine x_add rfl rfl rfl (wrap_i64 (by omega) (by omega)) rfl trivial ?_
    | refine x_sub_ rfl rfl rfl (wrap_i64 (by omega) (by omega)) rfl trivial ?_
    | refine x_sub_ rfl rfl rfl (wrap_u32 (by omega) (by omega)) rfl trivial ?_
    | refine x_add rfl rfl rfl (wrap_u32 (by omega) (by omega)) rfl trivial ?_
    | refine x_peqn rfl rfl rfl rfl trivial ?_
    | refine x_pnen rfl rfl rfl rfl trivial ?_
    | refine x_mul rfl rfl rfl (wrap_i64 (by omega) (by omega)) rfl trivial ?_
    | refine x_ibin rfl rfl rfl rfl rfl trivial ?_
    | refine x_neg_ rfl rfl (wrap_i64 (by omega) (by omega)) rfl trivial ?_
    | refine x_len rfl rfl (by assumption) rfl trivial ?_
    | refine x_pick_t rfl rfl rfl rfl trivial ?_
    | refine x_pick_f rfl rfl rfl rfl trivial ?_
    | refine x_not rfl rfl rfl trivial ?_
    | refine x_beq rfl rfl rfl rfl trivial ?_
    | refine x_bne rfl rfl rfl rfl trivial ?_
    | refine x_extract rfl rfl rfl rfl trivial ?_
    | refine x_nilCheck rfl rfl rfl trivial ?_
    | refine x_fieldAddr rfl rfl rfl rfl trivial ?_
    | refine x_skip trivial rfl rfl rfl ?_
    | refine x_indexAddr1 rfl rfl rfl (by assumption) (by omega) (by omega) rfl trivial ?_
    | refine x_indexAddr rfl rfl rfl (by assumption) (by omega) (by omega) rfl trivial ?_
    | refine x_nil ?_
    | refine cw_seq ?_
    | refine nw_seq ?_
    | refine nw_block ?_
    | refine cw_block ?_
    | refine cw_skip ?_
    | refine cw_region ?_
    | refine cw_exit rfl ?_
    | refine cw_true rfl ?_
    | refine cw_false rfl ?_)
  refine cw_cond rfl (fun hfull => ?_) (fun hfull => ?_) <;> (try simp at hfull)
  · have e : putP p l = (0, 4, p) := by unfold putP; rw [if_pos (by omega)]
    rw [e]
    repeat (first
      | refine x_move rfl rfl rfl trivial ?_
      | refine x_assign rfl rfl rfl trivial ?_
      | refine x_add rfl rfl rfl (wrap_i64 (by omega) (by omega)) rfl trivial ?_
      | refine x_sub_ rfl rfl rfl (wrap_i64 (by omega) (by omega)) rfl trivial ?_
      | refine x_sub_ rfl rfl rfl (wrap_u32 (by omega) (by omega)) rfl trivial ?_
      | refine x_add rfl rfl rfl (wrap_u32 (by omega) (by omega)) rfl trivial ?_
      | refine x_peqn rfl rfl rfl rfl trivial ?_
      | refine x_pnen rfl rfl rfl rfl trivial ?_
      | refine x_mul rfl rfl rfl (wrap_i64 (by omega) (by omega)) rfl trivial ?_
      | refine x_ibin rfl rfl rfl rfl rfl trivial ?_
      | refine x_neg_ rfl rfl (wrap_i64 (by omega) (by omega)) rfl trivial ?_
      | refine x_len rfl rfl (by assumption) rfl trivial ?_
      | refine x_pick_t rfl rfl rfl rfl trivial ?_
      | refine x_pick_f rfl rfl rfl rfl trivial ?_
      | refine x_not rfl rfl rfl trivial ?_
      | refine x_beq rfl rfl rfl rfl trivial ?_
      | refine x_bne rfl rfl rfl rfl trivial ?_
      | refine x_extract rfl rfl rfl rfl trivial ?_
      | refine x_nilCheck rfl rfl rfl trivial ?_
      | refine x_fieldAddr rfl rfl rfl rfl trivial ?_
      | refine x_skip trivial rfl rfl rfl ?_
      | refine x_indexAddr1 rfl rfl rfl (by assumption) (by omega) (by omega) rfl trivial ?_
      | refine x_indexAddr rfl rfl rfl (by assumption) (by omega) (by omega) rfl trivial ?_
      | refine x_nil ?_
      | refine cw_seq ?_
      | refine nw_seq ?_
      | refine nw_block ?_
      | refine cw_block ?_
      | refine cw_skip ?_
      | refine cw_region ?_
      | refine cw_exit rfl ?_
      | refine cw_true rfl ?_
      | refine cw_false rfl ?_)
    exact cw_ret2 rfl rfl rfl ⟨rfl, Keep.refl _ _, K, Role.Ext.refl _ _, hS⟩
  · repeat (first
      | refine x_move rfl rfl rfl trivial ?_
      | refine x_assign rfl rfl rfl trivial ?_
      | refine x_add rfl rfl rfl (wrap_i64 (by omega) (by omega)) rfl trivial ?_
      | refine x_sub_ rfl rfl rfl (wrap_i64 (by omega) (by omega)) rfl trivial ?_
      | refine x_sub_ rfl rfl rfl (wrap_u32 (by omega) (by omega)) rfl trivial ?_
      | refine x_add rfl rfl rfl (wrap_u32 (by omega) (by omega)) rfl trivial ?_
      | refine x_peqn rfl rfl rfl rfl trivial ?_
      | refine x_pnen rfl rfl rfl rfl trivial ?_
      | refine x_mul rfl rfl rfl (wrap_i64 (by omega) (by omega)) rfl trivial ?_
      | refine x_ibin rfl rfl rfl rfl rfl trivial ?_
      | refine x_neg_ rfl rfl (wrap_i64 (by omega) (by omega)) rfl trivial ?_
      | refine x_len rfl rfl (by assumption) rfl trivial ?_
      | refine x_pick_t rfl rfl rfl rfl trivial ?_
      | refine x_pick_f rfl rfl rfl rfl trivial ?_
      | refine x_not rfl rfl rfl trivial ?_
      | refine x_beq rfl rfl rfl rfl trivial ?_
      | refine x_bne rfl rfl rfl rfl trivial ?_
      | refine x_extract rfl rfl rfl rfl trivial ?_
      | refine x_nilCheck rfl rfl rfl trivial ?_
      | refine x_fieldAddr rfl rfl rfl rfl trivial ?_
      | refine x_skip trivial rfl rfl rfl ?_
      | refine x_indexAddr1 rfl rfl rfl (by assumption) (by omega) (by omega) rfl trivial ?_
      | refine x_indexAddr rfl rfl rfl (by assumption) (by omega) (by omega) rfl trivial ?_
      | refine x_nil ?_
      | refine cw_seq ?_
      | refine nw_seq ?_
      | refine nw_block ?_
      | refine cw_block ?_
      | refine cw_skip ?_
      | refine cw_region ?_
      | refine cw_exit rfl ?_
      | refine cw_true rfl ?_
      | refine cw_false rfl ?_)
    refine x_load rfl rfl (hpmt (c4)) rfl trivial ?_
    repeat (first
      | refine x_move rfl rfl rfl trivial ?_
      | refine x_assign rfl rfl rfl trivial ?_
      | refine x_add rfl rfl rfl (wrap_i64 (by omega) (by omega)) rfl trivial ?_
      | refine x_sub_ rfl rfl rfl (wrap_i64 (by omega) (by omega)) rfl trivial ?_
      | refine x_sub_ rfl rfl rfl (wrap_u32 (by omega) (by omega)) rfl trivial ?_
      | refine x_add rfl rfl rfl (wrap_u32 (by omega) (by omega)) rfl trivial ?_
      | refine x_peqn rfl rfl rfl rfl trivial ?_
      | refine x_pnen rfl rfl rfl rfl trivial ?_
      | refine x_mul rfl rfl rfl (wrap_i64 (by omega) (by omega)) rfl trivial ?_
      | refine x_ibin rfl rfl rfl rfl rfl trivial ?_
      | refine x_neg_ rfl rfl (wrap_i64 (by omega) (by omega)) rfl trivial ?_
      | refine x_len rfl rfl (by assumption) rfl trivial ?_
      | refine x_pick_t rfl rfl rfl rfl trivial ?_
      | refine x_pick_f rfl rfl rfl rfl trivial ?_
      | refine x_not rfl rfl rfl trivial ?_
      | refine x_beq rfl rfl rfl rfl trivial ?_
      | refine x_bne rfl rfl rfl rfl trivial ?_
      | refine x_extract rfl rfl rfl rfl trivial ?_
      | refine x_nilCheck rfl rfl rfl trivial ?_
      | refine x_fieldAddr rfl rfl rfl rfl trivial ?_
      | refine x_skip trivial rfl rfl rfl ?_
      | refine x_indexAddr1 rfl rfl rfl (by assumption) (by omega) (by omega) rfl trivial ?_
      | refine x_indexAddr rfl rfl rfl (by assumption) (by omega) (by omega) rfl trivial ?_
      | refine x_nil ?_
      | refine cw_seq ?_
      | refine nw_seq ?_
      | refine nw_block ?_
      | refine cw_block ?_
      | refine cw_skip ?_
      | refine cw_region ?_
      | refine cw_exit rfl ?_
      | refine cw_true rfl ?_
      | refine cw_false rfl ?_)
    refine x_store rfl rfl rfl rfl hM.hb (by simp) trivial ?_
    intro H1 hB1 hk1 hs1
    refine ⟨trivial, ?_⟩
    have hM1 := hM.own hB1 hk1
    have hL1 : Bs H1 vl l := hL.keep hk1 (fun hne e => by have := hKl hne; rw [e, k1] at this; omega)
    repeat (first
      | refine x_move rfl rfl rfl trivial ?_
      | refine x_assign rfl rfl rfl trivial ?_
      | refine x_add rfl rfl rfl (wrap_i64 (by omega) (by omega)) rfl trivial ?_
      | refine x_sub_ rfl rfl rfl (wrap_i64 (by omega) (by omega)) rfl trivial ?_
      | refine x_sub_ rfl rfl rfl (wrap_u32 (by omega) (by omega)) rfl trivial ?_
      | refine x_add rfl rfl rfl (wrap_u32 (by omega) (by omega)) rfl trivial ?_
      | refine x_peqn rfl rfl rfl rfl trivial ?_
      | refine x_pnen rfl rfl rfl rfl trivial ?_
      | refine x_mul rfl rfl rfl (wrap_i64 (by omega) (by omega)) rfl trivial ?_
      | refine x_ibin rfl rfl rfl rfl rfl trivial ?_
      | refine x_neg_ rfl rfl (wrap_i64 (by omega) (by omega)) rfl trivial ?_
      | refine x_len rfl rfl (by assumption) rfl trivial ?_
      | refine x_pick_t rfl rfl rfl rfl trivial ?_
      | refine x_pick_f rfl rfl rfl rfl trivial ?_
      | refine x_not rfl rfl rfl trivial ?_
      | refine x_beq rfl rfl rfl rfl trivial ?_
      | refine x_bne rfl rfl rfl rfl trivial ?_
      | refine x_extract rfl rfl rfl rfl trivial ?_
      | refine x_nilCheck rfl rfl rfl trivial ?_
      | refine x_fieldAddr rfl rfl rfl rfl trivial ?_
      | refine x_skip trivial rfl rfl rfl ?_
      | refine x_indexAddr1 rfl rfl rfl (by assumption) (by omega) (by omega) rfl trivial ?_
      | refine x_indexAddr rfl rfl rfl (by assumption) (by omega) (by omega) rfl trivial ?_
      | refine x_nil ?_
      | refine cw_seq ?_
      | refine nw_seq ?_
      | refine nw_block ?_
      | refine cw_block ?_
      | refine cw_skip ?_
      | refine cw_region ?_
      | refine cw_exit rfl ?_
      | refine cw_true rfl ?_
      | refine cw_false rfl ?_)
    refine x_append (v := .slice none 0 0) (by rfl) (by rfl) (by rfl) rfl rfl rfl (Own.nil 1 H1) hL1.sl (cx := bvs l) (by rw [bvs_length, Nat.mul_one]) hL1.at_ (bvs_oneC _) (by omega) rfl trivial ?_
    intro w H2 hap
    refine ⟨trivial, ?_⟩
    have hk2 := hap.old (Fresh.nil H1) (Keep.refl _ _)
    have hf2 := hap.fresh (Fresh.nil H1) (Nat.le_refl _)
    have ho2 : Own 1 H2 w l.length (bvs l) := by simpa using hap.own
    have hs12 := hk2.size
    obtain ⟨K1, hK1, hKe, hKc⟩ : ∃ K1 : Role, K1.In H2 ∧ (∀ x, x < H1.size → K1 x = K x) ∧ (l ≠ [] → K1 (sb w) = 4) := by
      by_cases hc : 0 < sc w
      · have h1 := ho2.lt hc
        have h2 := hf2 hc
        refine ⟨K.set (sb w) 4, (hM1.kin.mono hs12).set h1, fun x hx => Role.set_ne K (by omega), fun _ => Role.set_at _ _ _⟩
      · refine ⟨K, hM1.kin.mono hs12, fun x _ => rfl, fun hne => ?_⟩
        have := List.length_pos_iff.2 hne
        have := ho2.sl.cap.1
        omega
    have hKK : ∀ x, K x ≠ 0 → K1 x = K x := fun x hx => hKe x (hM1.kin x hx)
    have hM2 := (hM1.keep hk2 (fun _ _ h => h)).role hK1 hKK
    have hw2 : BsR K1 H2 w l := ⟨ho2.bs, hKc⟩
    have k02 : Keep (MutQ K) H H2 := (hk1.mono fun x _ e => .inl (by rw [e]; exact k1)).step hk2 fun _ _ h => h.elim
    have hold : ∀ x, x < H.size → K1 x = K x := fun x hx => hKe x (by omega)
    have c22 : cel H2 b 2 = some vb := by rw [hM2.hb.cel]; rfl
    have c20 : cel H2 b 0 = some vs := by rw [hM2.hb.cel]; rfl
    have c21 : cel H2 b 1 = some vt := by rw [hM2.hb.cel]; rfl
    have sB := hM2.hV.sl
    have cB := sB.cap
    have e1 : (tS p).length = p.tx.length + 1 := by simp [tS]
    have e2 : (tB p).length = p.tx.length + 1 := by simp [tB]
    repeat (first
      | refine x_move rfl rfl rfl trivial ?_
      | refine x_assign rfl rfl rfl trivial ?_
      | refine x_add rfl rfl rfl (wrap_i64 (by omega) (by omega)) rfl trivial ?_
      | refine x_sub_ rfl rfl rfl (wrap_i64 (by omega) (by omega)) rfl trivial ?_
      | refine x_sub_ rfl rfl rfl (wrap_u32 (by omega) (by omega)) rfl trivial ?_
      | refine x_add rfl rfl rfl (wrap_u32 (by omega) (by omega)) rfl trivial ?_
      | refine x_peqn rfl rfl rfl rfl trivial ?_
      | refine x_pnen rfl rfl rfl rfl trivial ?_
      | refine x_mul rfl rfl rfl (wrap_i64 (by omega) (by omega)) rfl trivial ?_
      | refine x_ibin rfl rfl rfl rfl rfl trivial ?_
      | refine x_neg_ rfl rfl (wrap_i64 (by omega) (by omega)) rfl trivial ?_
      | refine x_len rfl rfl (by assumption) rfl trivial ?_
      | refine x_pick_t rfl rfl rfl rfl trivial ?_
      | refine x_pick_f rfl rfl rfl rfl trivial ?_
      | refine x_not rfl rfl rfl trivial ?_
      | refine x_beq rfl rfl rfl rfl trivial ?_
      | refine x_bne rfl rfl rfl rfl trivial ?_
      | refine x_extract rfl rfl rfl rfl trivial ?_
      | refine x_nilCheck rfl rfl rfl trivial ?_
      | refine x_fieldAddr rfl rfl rfl rfl trivial ?_
      | refine x_skip trivial rfl rfl rfl ?_
      | refine x_indexAddr1 rfl rfl rfl (by assumption) (by omega) (by omega) rfl trivial ?_
      | refine x_indexAddr rfl rfl rfl (by assumption) (by omega) (by omega) rfl trivial ?_
      | refine x_nil ?_
      | refine cw_seq ?_
      | refine nw_seq ?_
      | refine nw_block ?_
      | refine cw_block ?_
      | refine cw_skip ?_
      | refine cw_region ?_
      | refine cw_exit rfl ?_
      | refine cw_true rfl ?_
      | refine cw_false rfl ?_)
    refine x_load rfl rfl (hpmt (c22)) rfl trivial ?_
    repeat (first
      | refine x_move rfl rfl rfl trivial ?_
      | refine x_assign rfl rfl rfl trivial ?_
      | refine x_add rfl rfl rfl (wrap_i64 (by omega) (by omega)) rfl trivial ?_
      | refine x_sub_ rfl rfl rfl (wrap_i64 (by omega) (by omega)) rfl trivial ?_
      | refine x_sub_ rfl rfl rfl (wrap_u32 (by omega) (by omega)) rfl trivial ?_
      | refine x_add rfl rfl rfl (wrap_u32 (by omega) (by omega)) rfl trivial ?_
      | refine x_peqn rfl rfl rfl rfl trivial ?_
      | refine x_pnen rfl rfl rfl rfl trivial ?_
      | refine x_mul rfl rfl rfl (wrap_i64 (by omega) (by omega)) rfl trivial ?_
      | refine x_ibin rfl rfl rfl rfl rfl trivial ?_
      | refine x_neg_ rfl rfl (wrap_i64 (by omega) (by omega)) rfl trivial ?_
      | refine x_len rfl rfl (by assumption) rfl trivial ?_
      | refine x_pick_t rfl rfl rfl rfl trivial ?_
      | refine x_pick_f rfl rfl rfl rfl trivial ?_
      | refine x_not rfl rfl rfl trivial ?_
      | refine x_beq rfl rfl rfl rfl trivial ?_
      | refine x_bne rfl rfl rfl rfl trivial ?_
      | refine x_extract rfl rfl rfl rfl trivial ?_
      | refine x_nilCheck rfl rfl rfl trivial ?_
      | refine x_fieldAddr rfl rfl rfl rfl trivial ?_
      | refine x_skip trivial rfl rfl rfl ?_
      | refine x_indexAddr1 rfl rfl rfl (by assumption) (by omega) (by omega) rfl trivial ?_
      | refine x_indexAddr rfl rfl rfl (by assumption) (by omega) (by omega) rfl trivial ?_
      | refine x_nil ?_
      | refine cw_seq ?_
      | refine nw_seq ?_
      | refine nw_block ?_
      | refine cw_block ?_
      | refine cw_skip ?_
      | refine cw_region ?_
      | refine cw_exit rfl ?_
      | refine cw_true rfl ?_
      | refine cw_false rfl ?_)
    cases hb : p.back.getLast? with
    | some h =>
      obtain ⟨g1, g2, g3⟩ := back_last hw hb
      have hh := hbh h (List.mem_of_getLast? hb)
      obtain ⟨m, hm'⟩ : ∃ m, p.back.length = m + 1 := ⟨p.back.length - 1, by
        have : p.back ≠ [] := by intro e; rw [e] at hb; cases hb
        have := List.length_pos_iff.2 this
        omega⟩
      have hbm : p.back[m]? = some h := by
        rw [List.getLast?_eq_getElem?] at hb
        rw [hm'] at hb
        simpa using hb
      have e : putP p l = (((h : Nat) : Int), 0, ⟨p.most, p.used + l.length, p.tx.set (h - 1) (l, true), p.back.dropLast⟩) := by
        unfold putP
        rw [if_neg (by omega), hb]
      rw [e]
      obtain ⟨y, hy, hc0⟩ := hM2.hV.rd.cel1 encU_len hbm
      rw [hy] at hc0
      have em : ((m + 1 : Nat) : Int) - 1 = (m : Int) := by omega
      rw [hm'] at sB cB ⊢
      refine cw_cond rfl (fun _ => ?_) (fun h => absurd h (by simp))
      repeat (first
        | refine x_move rfl rfl rfl trivial ?_
        | refine x_assign rfl rfl rfl trivial ?_
        | refine x_add rfl rfl rfl (wrap_i64 (by omega) (by omega)) rfl trivial ?_
        | refine x_sub_ rfl rfl rfl (wrap_i64 (by omega) (by omega)) rfl trivial ?_
        | refine x_sub_ rfl rfl rfl (wrap_u32 (by omega) (by omega)) rfl trivial ?_
        | refine x_add rfl rfl rfl (wrap_u32 (by omega) (by omega)) rfl trivial ?_
        | refine x_peqn rfl rfl rfl rfl trivial ?_
        | refine x_pnen rfl rfl rfl rfl trivial ?_
        | refine x_mul rfl rfl rfl (wrap_i64 (by omega) (by omega)) rfl trivial ?_
        | refine x_ibin rfl rfl rfl rfl rfl trivial ?_
        | refine x_neg_ rfl rfl (wrap_i64 (by omega) (by omega)) rfl trivial ?_
        | refine x_len rfl rfl (by assumption) rfl trivial ?_
        | refine x_pick_t rfl rfl rfl rfl trivial ?_
        | refine x_pick_f rfl rfl rfl rfl trivial ?_
        | refine x_not rfl rfl rfl trivial ?_
        | refine x_beq rfl rfl rfl rfl trivial ?_
        | refine x_bne rfl rfl rfl rfl trivial ?_
        | refine x_extract rfl rfl rfl rfl trivial ?_
        | refine x_nilCheck rfl rfl rfl trivial ?_
        | refine x_fieldAddr rfl rfl rfl rfl trivial ?_
        | refine x_skip trivial rfl rfl rfl ?_
        | refine x_indexAddr1 rfl rfl rfl (by assumption) (by omega) (by omega) rfl trivial ?_
        | refine x_indexAddr rfl rfl rfl (by assumption) (by omega) (by omega) rfl trivial ?_
        | refine x_nil ?_
        | refine cw_seq ?_
        | refine nw_seq ?_
        | refine nw_block ?_
        | refine cw_block ?_
        | refine cw_skip ?_
        | refine cw_region ?_
        | refine cw_exit rfl ?_
        | refine cw_true rfl ?_
        | refine cw_false rfl ?_)
      refine x_load rfl rfl (hpmt (c22)) rfl trivial ?_
      repeat (first
        | refine x_move rfl rfl rfl trivial ?_
        | refine x_assign rfl rfl rfl trivial ?_
        | refine x_add rfl rfl rfl (wrap_i64 (by omega) (by omega)) rfl trivial ?_
        | refine x_sub_ rfl rfl rfl (wrap_i64 (by omega) (by omega)) rfl trivial ?_
        | refine x_sub_ rfl rfl rfl (wrap_u32 (by omega) (by omega)) rfl trivial ?_
        | refine x_add rfl rfl rfl (wrap_u32 (by omega) (by omega)) rfl trivial ?_
        | refine x_peqn rfl rfl rfl rfl trivial ?_
        | refine x_pnen rfl rfl rfl rfl trivial ?_
        | refine x_mul rfl rfl rfl (wrap_i64 (by omega) (by omega)) rfl trivial ?_
        | refine x_ibin rfl rfl rfl rfl rfl trivial ?_
        | refine x_neg_ rfl rfl (wrap_i64 (by omega) (by omega)) rfl trivial ?_
        | refine x_len rfl rfl (by assumption) rfl trivial ?_
        | refine x_pick_t rfl rfl rfl rfl trivial ?_
        | refine x_pick_f rfl rfl rfl rfl trivial ?_
        | refine x_not rfl rfl rfl trivial ?_
        | refine x_beq rfl rfl rfl rfl trivial ?_
        | refine x_bne rfl rfl rfl rfl trivial ?_
        | refine x_extract rfl rfl rfl rfl trivial ?_
        | refine x_nilCheck rfl rfl rfl trivial ?_
        | refine x_fieldAddr rfl rfl rfl rfl trivial ?_
        | refine x_skip trivial rfl rfl rfl ?_
        | refine x_indexAddr1 rfl rfl rfl (by assumption) (by omega) (by omega) rfl trivial ?_
        | refine x_indexAddr rfl rfl rfl (by assumption) (by omega) (by omega) rfl trivial ?_
        | refine x_nil ?_
        | refine cw_seq ?_
        | refine nw_seq ?_
        | refine nw_block ?_
        | refine cw_block ?_
        | refine cw_skip ?_
        | refine cw_region ?_
        | refine cw_exit rfl ?_
        | refine cw_true rfl ?_
        | refine cw_false rfl ?_)
      rw [em]
      refine x_load rfl rfl (hpmt (hc0)) rfl trivial ?_
      repeat (first
        | refine x_move rfl rfl rfl trivial ?_
        | refine x_assign rfl rfl rfl trivial ?_
        | refine x_add rfl rfl rfl (wrap_i64 (by omega) (by omega)) rfl trivial ?_
        | refine x_sub_ rfl rfl rfl (wrap_i64 (by omega) (by omega)) rfl trivial ?_
        | refine x_sub_ rfl rfl rfl (wrap_u32 (by omega) (by omega)) rfl trivial ?_
        | refine x_add rfl rfl rfl (wrap_u32 (by omega) (by omega)) rfl trivial ?_
        | refine x_peqn rfl rfl rfl rfl trivial ?_
        | refine x_pnen rfl rfl rfl rfl trivial ?_
        | refine x_mul rfl rfl rfl (wrap_i64 (by omega) (by omega)) rfl trivial ?_
        | refine x_ibin rfl rfl rfl rfl rfl trivial ?_
        | refine x_neg_ rfl rfl (wrap_i64 (by omega) (by omega)) rfl trivial ?_
        | refine x_len rfl rfl (by assumption) rfl trivial ?_
        | refine x_pick_t rfl rfl rfl rfl trivial ?_
        | refine x_pick_f rfl rfl rfl rfl trivial ?_
        | refine x_not rfl rfl rfl trivial ?_
        | refine x_beq rfl rfl rfl rfl trivial ?_
        | refine x_bne rfl rfl rfl rfl trivial ?_
        | refine x_extract rfl rfl rfl rfl trivial ?_
        | refine x_nilCheck rfl rfl rfl trivial ?_
        | refine x_fieldAddr rfl rfl rfl rfl trivial ?_
        | refine x_skip trivial rfl rfl rfl ?_
        | refine x_indexAddr1 rfl rfl rfl (by assumption) (by omega) (by omega) rfl trivial ?_
        | refine x_indexAddr rfl rfl rfl (by assumption) (by omega) (by omega) rfl trivial ?_
        | refine x_nil ?_
        | refine cw_seq ?_
        | refine nw_seq ?_
        | refine nw_block ?_
        | refine cw_block ?_
        | refine cw_skip ?_
        | refine cw_region ?_
        | refine cw_exit rfl ?_
        | refine cw_true rfl ?_
        | refine cw_false rfl ?_)
      refine x_load rfl rfl (hpmt (c22)) rfl trivial ?_
      repeat (first
        | refine x_move rfl rfl rfl trivial ?_
        | refine x_assign rfl rfl rfl trivial ?_
        | refine x_add rfl rfl rfl (wrap_i64 (by omega) (by omega)) rfl trivial ?_
        | refine x_sub_ rfl rfl rfl (wrap_i64 (by omega) (by omega)) rfl trivial ?_
        | refine x_sub_ rfl rfl rfl (wrap_u32 (by omega) (by omega)) rfl trivial ?_
        | refine x_add rfl rfl rfl (wrap_u32 (by omega) (by omega)) rfl trivial ?_
        | refine x_peqn rfl rfl rfl rfl trivial ?_
        | refine x_pnen rfl rfl rfl rfl trivial ?_
        | refine x_mul rfl rfl rfl (wrap_i64 (by omega) (by omega)) rfl trivial ?_
        | refine x_ibin rfl rfl rfl rfl rfl trivial ?_
        | refine x_neg_ rfl rfl (wrap_i64 (by omega) (by omega)) rfl trivial ?_
        | refine x_len rfl rfl (by assumption) rfl trivial ?_
        | refine x_pick_t rfl rfl rfl rfl trivial ?_
        | refine x_pick_f rfl rfl rfl rfl trivial ?_
        | refine x_not rfl rfl rfl trivial ?_
        | refine x_beq rfl rfl rfl rfl trivial ?_
        | refine x_bne rfl rfl rfl rfl trivial ?_
        | refine x_extract rfl rfl rfl rfl trivial ?_
        | refine x_nilCheck rfl rfl rfl trivial ?_
        | refine x_fieldAddr rfl rfl rfl rfl trivial ?_
        | refine x_skip trivial rfl rfl rfl ?_
        | refine x_indexAddr1 rfl rfl rfl (by assumption) (by omega) (by omega) rfl trivial ?_
        | refine x_indexAddr rfl rfl rfl (by assumption) (by omega) (by omega) rfl trivial ?_
        | refine x_nil ?_
        | refine cw_seq ?_
        | refine nw_seq ?_
        | refine nw_block ?_
        | refine cw_block ?_
        | refine cw_skip ?_
        | refine cw_region ?_
        | refine cw_exit rfl ?_
        | refine cw_true rfl ?_
        | refine cw_false rfl ?_)
      rw [em]
      refine x_slice_h rfl rfl rfl sB (by omega) (by omega) rfl trivial ?_
      intro u hu' hcut
      have hdl : p.back.take m = p.back.dropLast := by rw [List.dropLast_eq_take, hm', Nat.add_sub_cancel]
      have hU : Rw encU 1 Eq H2 u p.back.dropLast := by
        rw [← hdl]
        exact hM2.hV.shrink encU_len hu' hcut (by omega)
      have hposb : 0 < sc vb := by omega
      have hsu : 0 < sc u → K1 (sb u) = 3 := fun _ => by rw [(hcut.at_ hposb).1]; exact hM2.kv hposb
      have hM2' : Mid K1 H2 b vs vt u _ _ _ _ := ⟨hM2.kin, hM2.kb, hM2.hb, hM2.hS, hM2.ks, hM2.hT, hM2.kt, hU, hsu⟩
      repeat (first
        | refine x_move rfl rfl rfl trivial ?_
        | refine x_assign rfl rfl rfl trivial ?_
        | refine x_add rfl rfl rfl (wrap_i64 (by omega) (by omega)) rfl trivial ?_
        | refine x_sub_ rfl rfl rfl (wrap_i64 (by omega) (by omega)) rfl trivial ?_
        | refine x_sub_ rfl rfl rfl (wrap_u32 (by omega) (by omega)) rfl trivial ?_
        | refine x_add rfl rfl rfl (wrap_u32 (by omega) (by omega)) rfl trivial ?_
        | refine x_peqn rfl rfl rfl rfl trivial ?_
        | refine x_pnen rfl rfl rfl rfl trivial ?_
        | refine x_mul rfl rfl rfl (wrap_i64 (by omega) (by omega)) rfl trivial ?_
        | refine x_ibin rfl rfl rfl rfl rfl trivial ?_
        | refine x_neg_ rfl rfl (wrap_i64 (by omega) (by omega)) rfl trivial ?_
        | refine x_len rfl rfl (by assumption) rfl trivial ?_
        | refine x_pick_t rfl rfl rfl rfl trivial ?_
        | refine x_pick_f rfl rfl rfl rfl trivial ?_
        | refine x_not rfl rfl rfl trivial ?_
        | refine x_beq rfl rfl rfl rfl trivial ?_
        | refine x_bne rfl rfl rfl rfl trivial ?_
        | refine x_extract rfl rfl rfl rfl trivial ?_
        | refine x_nilCheck rfl rfl rfl trivial ?_
        | refine x_fieldAddr rfl rfl rfl rfl trivial ?_
        | refine x_skip trivial rfl rfl rfl ?_
        | refine x_indexAddr1 rfl rfl rfl (by assumption) (by omega) (by omega) rfl trivial ?_
        | refine x_indexAddr rfl rfl rfl (by assumption) (by omega) (by omega) rfl trivial ?_
        | refine x_nil ?_
        | refine cw_seq ?_
        | refine nw_seq ?_
        | refine nw_block ?_
        | refine cw_block ?_
        | refine cw_skip ?_
        | refine cw_region ?_
        | refine cw_exit rfl ?_
        | refine cw_true rfl ?_
        | refine cw_false rfl ?_)
      refine x_store rfl rfl rfl (isSl_oneC hU.sl) hM2.hb (by simp) trivial ?_
      intro H3 hB3 hk3 hs3
      refine ⟨trivial, ?_⟩
      have hM3 := hM2'.own hB3 hk3
      have hw3 : BsR K1 H3 w l := hw2.keep hk3 (fun x hx e => by rw [e, hM2.kb] at hx; omega) (fun _ h => h)
      have c30 : cel H3 b 0 = some vs := by rw [hM3.hb.cel]; rfl
      have c31 : cel H3 b 1 = some vt := by rw [hM3.hb.cel]; rfl
      have hr3 := Keep.refl Non H3
      have sS := hM3.hS.sl
      have sT := hM3.hT.sl
      rw [e1] at sS
      rw [e2] at sT
      have gS : ∃ y, (tS p)[h]? = some y := ⟨_, List.getElem?_eq_getElem (by omega)⟩
      obtain ⟨yS, gS⟩ := gS
      have gT : ∃ y, (tB p)[h]? = some y := ⟨_, List.getElem?_eq_getElem (by omega)⟩
      obtain ⟨yT, gT⟩ := gT
      obtain ⟨r, hB, hr, hx1⟩ := hM3.hS.put1 (j := h) (k := 0) encS_len (by omega) (by omega)
      obtain ⟨_, _, _, hput⟩ := hx1 _ gS
      rw [Nat.mul_one, Nat.add_zero] at hr hput
      have ks := hM3.ks (pos_of hM3.hS gS)
      have kt := hM3.kt (pos_of hM3.hT gT)
      have kb := hM3.kb
      have hnst : ¬ sb vt = sb vs := fun e => by rw [e, ks] at kt; omega
      have hnbs : ¬ b = sb vs := fun e => by rw [e, ks] at kb; omega
      have hnbt : ¬ b = sb vt := fun e => by rw [e, kt] at kb; omega
      repeat (first
        | refine x_move rfl rfl rfl trivial ?_
        | refine x_assign rfl rfl rfl trivial ?_
        | refine x_add rfl rfl rfl (wrap_i64 (by omega) (by omega)) rfl trivial ?_
        | refine x_sub_ rfl rfl rfl (wrap_i64 (by omega) (by omega)) rfl trivial ?_
        | refine x_sub_ rfl rfl rfl (wrap_u32 (by omega) (by omega)) rfl trivial ?_
        | refine x_add rfl rfl rfl (wrap_u32 (by omega) (by omega)) rfl trivial ?_
        | refine x_peqn rfl rfl rfl rfl trivial ?_
        | refine x_pnen rfl rfl rfl rfl trivial ?_
        | refine x_mul rfl rfl rfl (wrap_i64 (by omega) (by omega)) rfl trivial ?_
        | refine x_ibin rfl rfl rfl rfl rfl trivial ?_
        | refine x_neg_ rfl rfl (wrap_i64 (by omega) (by omega)) rfl trivial ?_
        | refine x_len rfl rfl (by assumption) rfl trivial ?_
        | refine x_pick_t rfl rfl rfl rfl trivial ?_
        | refine x_pick_f rfl rfl rfl rfl trivial ?_
        | refine x_not rfl rfl rfl trivial ?_
        | refine x_beq rfl rfl rfl rfl trivial ?_
        | refine x_bne rfl rfl rfl rfl trivial ?_
        | refine x_extract rfl rfl rfl rfl trivial ?_
        | refine x_nilCheck rfl rfl rfl trivial ?_
        | refine x_fieldAddr rfl rfl rfl rfl trivial ?_
        | refine x_skip trivial rfl rfl rfl ?_
        | refine x_indexAddr1 rfl rfl rfl (by assumption) (by omega) (by omega) rfl trivial ?_
        | refine x_indexAddr rfl rfl rfl (by assumption) (by omega) (by omega) rfl trivial ?_
        | refine x_nil ?_
        | refine cw_seq ?_
        | refine nw_seq ?_
        | refine nw_block ?_
        | refine cw_block ?_
        | refine cw_skip ?_
        | refine cw_region ?_
        | refine cw_exit rfl ?_
        | refine cw_true rfl ?_
        | refine cw_false rfl ?_)
      refine cw_held (fun _ => Keep Non H3) ⟨[12, 14], [(3, 0), (8, 0)]⟩ (.op 0 (.op 1 (.op 2 (.op 3 (.op 4 (.op 5 (.op 6 (.op 7 (.op 8 (.op 9 (.op 10 (.op 11 (.op 12 (.op 13 (.op 14 (.nil)))))))))))))))) panicOk_body mixed (by kernel_rfl) ?_
      repeat (first
        | refine x_move rfl rfl rfl (okq_reg rfl rfl) ?_
        | refine x_assign rfl rfl rfl (okq_reg rfl rfl) ?_
        | refine x_add rfl rfl rfl (wrap_i64 (by omega) (by omega)) rfl (okq_reg rfl rfl) ?_
        | refine x_sub_ rfl rfl rfl (wrap_i64 (by omega) (by omega)) rfl (okq_reg rfl rfl) ?_
        | refine x_sub_ rfl rfl rfl (wrap_u32 (by omega) (by omega)) rfl (okq_reg rfl rfl) ?_
        | refine x_mul rfl rfl rfl (wrap_i64 (by omega) (by omega)) rfl (okq_reg rfl rfl) ?_
        | refine x_ibin rfl rfl rfl rfl rfl (okq_reg rfl rfl) ?_
        | refine x_len rfl rfl (by assumption) rfl (okq_reg rfl rfl) ?_
        | refine x_pick_t rfl rfl rfl rfl (okq_reg rfl rfl) ?_
        | refine x_pick_f rfl rfl rfl rfl (okq_reg rfl rfl) ?_
        | refine x_not rfl rfl rfl (okq_reg rfl rfl) ?_
        | refine x_extract rfl rfl rfl rfl (okq_reg rfl rfl) ?_
        | refine x_nilCheck rfl rfl rfl (okq_reg rfl rfl) ?_
        | refine x_fieldAddr rfl rfl rfl rfl (okq_reg rfl rfl) ?_
        | refine x_skip (okq_reg rfl rfl) rfl rfl rfl ?_
        | refine x_indexAddr1 rfl rfl rfl (by assumption) (by omega) (by omega) rfl (okq_reg rfl rfl) ?_
        | refine x_indexAddr rfl rfl rfl (by assumption) (by omega) (by omega) rfl (okq_reg rfl rfl) ?_
        | refine x_nil ?_
        | refine cw_seq ?_
        | refine nw_seq ?_
        | refine nw_block ?_
        | refine cw_block ?_
        | refine cw_skip ?_
        | refine cw_region ?_
        | refine cw_exit rfl ?_
        | refine cw_true rfl ?_
        | refine cw_false rfl ?_)
      refine x_load rfl rfl (hpmk rfl (fun _ hk => hk.cel c30 (fun h => h))) rfl (okq_load rfl rfl (by assumption)) ?_
      repeat (first
        | refine x_move rfl rfl rfl (okq_reg rfl rfl) ?_
        | refine x_assign rfl rfl rfl (okq_reg rfl rfl) ?_
        | refine x_add rfl rfl rfl (wrap_i64 (by omega) (by omega)) rfl (okq_reg rfl rfl) ?_
        | refine x_sub_ rfl rfl rfl (wrap_i64 (by omega) (by omega)) rfl (okq_reg rfl rfl) ?_
        | refine x_sub_ rfl rfl rfl (wrap_u32 (by omega) (by omega)) rfl (okq_reg rfl rfl) ?_
        | refine x_mul rfl rfl rfl (wrap_i64 (by omega) (by omega)) rfl (okq_reg rfl rfl) ?_
        | refine x_ibin rfl rfl rfl rfl rfl (okq_reg rfl rfl) ?_
        | refine x_len rfl rfl (by assumption) rfl (okq_reg rfl rfl) ?_
        | refine x_pick_t rfl rfl rfl rfl (okq_reg rfl rfl) ?_
        | refine x_pick_f rfl rfl rfl rfl (okq_reg rfl rfl) ?_
        | refine x_not rfl rfl rfl (okq_reg rfl rfl) ?_
        | refine x_extract rfl rfl rfl rfl (okq_reg rfl rfl) ?_
        | refine x_nilCheck rfl rfl rfl (okq_reg rfl rfl) ?_
        | refine x_fieldAddr rfl rfl rfl rfl (okq_reg rfl rfl) ?_
        | refine x_skip (okq_reg rfl rfl) rfl rfl rfl ?_
        | refine x_indexAddr1 rfl rfl rfl (by assumption) (by omega) (by omega) rfl (okq_reg rfl rfl) ?_
        | refine x_indexAddr rfl rfl rfl (by assumption) (by omega) (by omega) rfl (okq_reg rfl rfl) ?_
        | refine x_nil ?_
        | refine cw_seq ?_
        | refine nw_seq ?_
        | refine nw_block ?_
        | refine cw_block ?_
        | refine cw_skip ?_
        | refine cw_region ?_
        | refine cw_exit rfl ?_
        | refine cw_true rfl ?_
        | refine cw_false rfl ?_)
      refine x_load rfl rfl (hpmk rfl (fun _ hk => hk.cel c31 (fun h => h))) rfl (okq_load rfl rfl (by assumption)) ?_
      repeat (first
        | refine x_move rfl rfl rfl (okq_reg rfl rfl) ?_
        | refine x_assign rfl rfl rfl (okq_reg rfl rfl) ?_
        | refine x_add rfl rfl rfl (wrap_i64 (by omega) (by omega)) rfl (okq_reg rfl rfl) ?_
        | refine x_sub_ rfl rfl rfl (wrap_i64 (by omega) (by omega)) rfl (okq_reg rfl rfl) ?_
        | refine x_sub_ rfl rfl rfl (wrap_u32 (by omega) (by omega)) rfl (okq_reg rfl rfl) ?_
        | refine x_mul rfl rfl rfl (wrap_i64 (by omega) (by omega)) rfl (okq_reg rfl rfl) ?_
        | refine x_ibin rfl rfl rfl rfl rfl (okq_reg rfl rfl) ?_
        | refine x_len rfl rfl (by assumption) rfl (okq_reg rfl rfl) ?_
        | refine x_pick_t rfl rfl rfl rfl (okq_reg rfl rfl) ?_
        | refine x_pick_f rfl rfl rfl rfl (okq_reg rfl rfl) ?_
        | refine x_not rfl rfl rfl (okq_reg rfl rfl) ?_
        | refine x_extract rfl rfl rfl rfl (okq_reg rfl rfl) ?_
        | refine x_nilCheck rfl rfl rfl (okq_reg rfl rfl) ?_
        | refine x_fieldAddr rfl rfl rfl rfl (okq_reg rfl rfl) ?_
        | refine x_skip (okq_reg rfl rfl) rfl rfl rfl ?_
        | refine x_indexAddr1 rfl rfl rfl (by assumption) (by omega) (by omega) rfl (okq_reg rfl rfl) ?_
        | refine x_indexAddr rfl rfl rfl (by assumption) (by omega) (by omega) rfl (okq_reg rfl rfl) ?_
        | refine x_nil ?_
        | refine cw_seq ?_
        | refine nw_seq ?_
        | refine nw_block ?_
        | refine cw_block ?_
        | refine cw_skip ?_
        | refine cw_region ?_
        | refine cw_exit rfl ?_
        | refine cw_true rfl ?_
        | refine cw_false rfl ?_)
      refine x_store rfl rfl rfl (isSl_oneC hw3.1.sl) hB hr ⟨rfl, rfl⟩ ?_
      intro H4 hB4 hk4 hs4
      refine ⟨okm_free (fun c => by cases c <;> kernel_rfl), ?_⟩
      have hS4 := bss_keep (hput H4 w l _ rfl hw3 hB4) hk4 (fun x hx e => by rw [e, ks] at hx; omega)
      obtain ⟨rt, hBt, hrt, hxt⟩ := (hM3.hT.keep hk4 (fun _ e => hnst e)).put1 (j := h) (k := 0) encB_len (by omega) (by omega)
      obtain ⟨_, _, _, hputt⟩ := hxt _ gT
      rw [Nat.mul_one, Nat.add_zero] at hrt hputt
      repeat (first
        | refine x_move rfl rfl rfl (okq_reg rfl rfl) ?_
        | refine x_assign rfl rfl rfl (okq_reg rfl rfl) ?_
        | refine x_add rfl rfl rfl (wrap_i64 (by omega) (by omega)) rfl (okq_reg rfl rfl) ?_
        | refine x_sub_ rfl rfl rfl (wrap_i64 (by omega) (by omega)) rfl (okq_reg rfl rfl) ?_
        | refine x_sub_ rfl rfl rfl (wrap_u32 (by omega) (by omega)) rfl (okq_reg rfl rfl) ?_
        | refine x_mul rfl rfl rfl (wrap_i64 (by omega) (by omega)) rfl (okq_reg rfl rfl) ?_
        | refine x_ibin rfl rfl rfl rfl rfl (okq_reg rfl rfl) ?_
        | refine x_len rfl rfl (by assumption) rfl (okq_reg rfl rfl) ?_
        | refine x_pick_t rfl rfl rfl rfl (okq_reg rfl rfl) ?_
        | refine x_pick_f rfl rfl rfl rfl (okq_reg rfl rfl) ?_
        | refine x_not rfl rfl rfl (okq_reg rfl rfl) ?_
        | refine x_extract rfl rfl rfl rfl (okq_reg rfl rfl) ?_
        | refine x_nilCheck rfl rfl rfl (okq_reg rfl rfl) ?_
        | refine x_fieldAddr rfl rfl rfl rfl (okq_reg rfl rfl) ?_
        | refine x_skip (okq_reg rfl rfl) rfl rfl rfl ?_
        | refine x_indexAddr1 rfl rfl rfl (by assumption) (by omega) (by omega) rfl (okq_reg rfl rfl) ?_
        | refine x_indexAddr rfl rfl rfl (by assumption) (by omega) (by omega) rfl (okq_reg rfl rfl) ?_
        | refine x_nil ?_
        | refine cw_seq ?_
        | refine nw_seq ?_
        | refine nw_block ?_
        | refine cw_block ?_
        | refine cw_skip ?_
        | refine cw_region ?_
        | refine cw_exit rfl ?_
        | refine cw_true rfl ?_
        | refine cw_false rfl ?_)
      refine x_store rfl rfl rfl rfl hBt hrt ⟨rfl, rfl⟩ ?_
      intro H5 hB5 hk5 hs5
      refine ⟨okm_free (fun c => by cases c <;> kernel_rfl), ?_⟩
      repeat (first
        | refine x_move rfl rfl rfl (okq_reg rfl rfl) ?_
        | refine x_assign rfl rfl rfl (okq_reg rfl rfl) ?_
        | refine x_add rfl rfl rfl (wrap_i64 (by omega) (by omega)) rfl (okq_reg rfl rfl) ?_
        | refine x_sub_ rfl rfl rfl (wrap_i64 (by omega) (by omega)) rfl (okq_reg rfl rfl) ?_
        | refine x_sub_ rfl rfl rfl (wrap_u32 (by omega) (by omega)) rfl (okq_reg rfl rfl) ?_
        | refine x_mul rfl rfl rfl (wrap_i64 (by omega) (by omega)) rfl (okq_reg rfl rfl) ?_
        | refine x_ibin rfl rfl rfl rfl rfl (okq_reg rfl rfl) ?_
        | refine x_len rfl rfl (by assumption) rfl (okq_reg rfl rfl) ?_
        | refine x_pick_t rfl rfl rfl rfl (okq_reg rfl rfl) ?_
        | refine x_pick_f rfl rfl rfl rfl (okq_reg rfl rfl) ?_
        | refine x_not rfl rfl rfl (okq_reg rfl rfl) ?_
        | refine x_extract rfl rfl rfl rfl (okq_reg rfl rfl) ?_
        | refine x_nilCheck rfl rfl rfl (okq_reg rfl rfl) ?_
        | refine x_fieldAddr rfl rfl rfl rfl (okq_reg rfl rfl) ?_
        | refine x_skip (okq_reg rfl rfl) rfl rfl rfl ?_
        | refine x_indexAddr1 rfl rfl rfl (by assumption) (by omega) (by omega) rfl (okq_reg rfl rfl) ?_
        | refine x_indexAddr rfl rfl rfl (by assumption) (by omega) (by omega) rfl (okq_reg rfl rfl) ?_
        | refine x_nil ?_
        | refine cw_seq ?_
        | refine nw_seq ?_
        | refine nw_block ?_
        | refine cw_block ?_
        | refine cw_skip ?_
        | refine cw_region ?_
        | refine cw_exit rfl ?_
        | refine cw_true rfl ?_
        | refine cw_false rfl ?_)
      repeat (first
        | refine x_move rfl rfl rfl trivial ?_
        | refine x_assign rfl rfl rfl trivial ?_
        | refine x_add rfl rfl rfl (wrap_i64 (by omega) (by omega)) rfl trivial ?_
        | refine x_sub_ rfl rfl rfl (wrap_i64 (by omega) (by omega)) rfl trivial ?_
        | refine x_sub_ rfl rfl rfl (wrap_u32 (by omega) (by omega)) rfl trivial ?_
        | refine x_add rfl rfl rfl (wrap_u32 (by omega) (by omega)) rfl trivial ?_
        | refine x_peqn rfl rfl rfl rfl trivial ?_
        | refine x_pnen rfl rfl rfl rfl trivial ?_
        | refine x_mul rfl rfl rfl (wrap_i64 (by omega) (by omega)) rfl trivial ?_
        | refine x_ibin rfl rfl rfl rfl rfl trivial ?_
        | refine x_neg_ rfl rfl (wrap_i64 (by omega) (by omega)) rfl trivial ?_
        | refine x_len rfl rfl (by assumption) rfl trivial ?_
        | refine x_pick_t rfl rfl rfl rfl trivial ?_
        | refine x_pick_f rfl rfl rfl rfl trivial ?_
        | refine x_not rfl rfl rfl trivial ?_
        | refine x_beq rfl rfl rfl rfl trivial ?_
        | refine x_bne rfl rfl rfl rfl trivial ?_
        | refine x_extract rfl rfl rfl rfl trivial ?_
        | refine x_nilCheck rfl rfl rfl trivial ?_
        | refine x_fieldAddr rfl rfl rfl rfl trivial ?_
        | refine x_skip trivial rfl rfl rfl ?_
        | refine x_indexAddr1 rfl rfl rfl (by assumption) (by omega) (by omega) rfl trivial ?_
        | refine x_indexAddr rfl rfl rfl (by assumption) (by omega) (by omega) rfl trivial ?_
        | refine x_nil ?_
        | refine cw_seq ?_
        | refine nw_seq ?_
        | refine nw_block ?_
        | refine cw_block ?_
        | refine cw_skip ?_
        | refine cw_region ?_
        | refine cw_exit rfl ?_
        | refine cw_true rfl ?_
        | refine cw_false rfl ?_)
      have k35 : Keep (fun x => x = sb vs ∨ x = sb vt) H3 H5 := (hk4.mono fun _ _ e => .inl e).step hk5 fun _ _ e => .inr e
      have hM5 : Sq K1 H5 b ⟨p.most, p.used + l.length, p.tx.set (h - 1) (l, true), p.back.dropLast⟩ := by
        refine ⟨hM3.kin.mono k35.size, kb, vs, vt, u, (hM3.hb.keep hk4 hnbs).keep hk5 hnbt, ?_, ks, ?_, kt, ?_, hsu⟩
        · rw [tS_set p h _ _ _ _ _ g1]
          exact bss_keep (hS4.keep hk5 (fun _ e => hnst e.symm)) hk5 (fun x hx e => by rw [e, kt] at hx; omega)
        · rw [tB_set p h _ _ _ _ _ g1]
          exact hputt H5 true true _ rfl rfl hB5
        · refine hM3.hV.keep k35 (fun hc e => ?_)
          have := hsu hc
          rcases e with e | e <;> rw [e] at this <;> omega
      refine cw_ret2 rfl rfl rfl ⟨rfl, (k02.step hk3 fun x hx e => .inl (by rw [e]; exact k1)).step k35 fun x hx e => ?_, K1, ⟨hold, by have := k35.size; omega⟩, hM5⟩
      rcases e with e | e
      · exact .inr (.inl (by rw [← hold x hx, e]; exact ks))
      · exact .inr (.inr (.inr (by rw [← hold x hx, e]; exact kt)))
    | none =>
      have hb0 : p.back = [] := List.getLast?_eq_none_iff.1 hb
      have e : putP p l = (((p.tx.length + 1 : Nat) : Int), 0, ⟨p.most, p.used + l.length, p.tx ++ [(l, true)], []⟩) := by
        unfold putP
        rw [if_neg (by omega), hb]
      rw [e]
      refine cw_cond rfl (fun h => absurd h (by rw [hb0]; simp)) (fun _ => ?_)
      have hwO := isSl_oneC hw2.1.sl
      have hlt2 : b < H2.size := hM2.kin b (by rw [hM2.kb]; omega)
      have hn4 : ∀ x, K1 x = 4 → ¬ (x = sb vs ∨ x = sb vt) := fun x hx e => by
        have := hM2.ks (pos_of' hM2.hS (by simp [tS]))
        have := hM2.kt (pos_of' hM2.hT (by simp [tB]))
        rcases e with e | e <;> rw [e] at hx <;> omega
      have hnb : ¬ (b = sb vs ∨ b = sb vt) := fun e => by
        have := hM2.kb
        have := hM2.ks (pos_of' hM2.hS (by simp [tS]))
        have := hM2.kt (pos_of' hM2.hT (by simp [tB]))
        rcases e with e | e <;> have := congrArg K1 e <;> omega
      have kc : Keep (fun x => x = sb vs ∨ x = sb vt) H2 H2 := Keep.refl _ _
      have hMc := hM2
      have hsv := hM2.hS.lt (pos_of' hM2.hS (by simp [tS]))
      repeat (first
        | refine x_move rfl rfl rfl trivial ?_
        | refine x_assign rfl rfl rfl trivial ?_
        | refine x_add rfl rfl rfl (wrap_i64 (by omega) (by omega)) rfl trivial ?_
        | refine x_sub_ rfl rfl rfl (wrap_i64 (by omega) (by omega)) rfl trivial ?_
        | refine x_mul rfl rfl rfl (wrap_i64 (by omega) (by omega)) rfl trivial ?_
        | refine x_ibin rfl rfl rfl rfl rfl trivial ?_
        | refine x_neg_ rfl rfl (wrap_i64 (by omega) (by omega)) rfl trivial ?_
        | refine x_len rfl rfl (by assumption) rfl trivial ?_
        | refine x_pick_t rfl rfl rfl rfl trivial ?_
        | refine x_pick_f rfl rfl rfl rfl trivial ?_
        | refine x_not rfl rfl rfl trivial ?_
        | refine x_beq rfl rfl rfl rfl trivial ?_
        | refine x_bne rfl rfl rfl rfl trivial ?_
        | refine x_extract rfl rfl rfl rfl trivial ?_
        | refine x_nilCheck rfl rfl rfl trivial ?_
        | refine x_fieldAddr rfl rfl rfl rfl trivial ?_
        | refine x_skip trivial rfl rfl rfl ?_
        | refine x_indexAddr1 rfl rfl rfl (by assumption) (by omega) (by omega) rfl trivial ?_
        | refine x_indexAddr rfl rfl rfl (by assumption) (by omega) (by omega) rfl trivial ?_
        | refine x_nil ?_
        | refine cw_seq ?_
        | refine nw_seq ?_
        | refine nw_block ?_
        | refine cw_block ?_
        | refine cw_skip ?_
        | refine cw_exit rfl ?_
        | refine cw_true rfl ?_
        | refine cw_false rfl ?_)
      refine cw_cut (fun _ : Unit => [(0, ptr b 0)]) (fun _ H' => Keep (MutQ K) H H' ∧ ∃ K', K.Ext K' H H' ∧ Sq K' H' b ⟨p.most, p.used + l.length, p.tx ++ [(l, true)], []⟩) ?_ ?_
      · refine cw_held (fun _ => Keep (fun x => x = sb vs ∨ x = sb vt) H2) ⟨[7, 8, 13, 14, 17, 20], [(5, 0), (12, 0)]⟩ (.op 0 (.op 1 (.op 2 (.op 3 (.op 4 (.op 5 (.op 6 (.op 9 (.op 10 (.op 11 (.op 12 (.alt (.op 7 (.alt (.op 8 (.op 13 (.op 14 (.op 15 (.op 16 (.op 17 (.op 18 (.op 19 (.op 20 (.nil)))))))))) (.op 13 (.op 8 (.op 14 (.op 15 (.op 16 (.op 17 (.op 18 (.op 19 (.op 20 (.nil)))))))))))) (.op 13 (.op 7 (.op 8 (.op 14 (.op 15 (.op 16 (.op 17 (.op 18 (.op 19 (.op 20 (.nil))))))))))))))))))))))) panicOk_body mixed (by kernel_rfl) ?_
        repeat (first
          | refine x_move rfl rfl rfl (okq_reg rfl rfl) ?_
          | refine x_assign rfl rfl rfl (okq_reg rfl rfl) ?_
          | refine x_add rfl rfl rfl (wrap_i64 (by omega) (by omega)) rfl (okq_reg rfl rfl) ?_
          | refine x_sub_ rfl rfl rfl (wrap_i64 (by omega) (by omega)) rfl (okq_reg rfl rfl) ?_
          | refine x_sub_ rfl rfl rfl (wrap_u32 (by omega) (by omega)) rfl (okq_reg rfl rfl) ?_
          | refine x_mul rfl rfl rfl (wrap_i64 (by omega) (by omega)) rfl (okq_reg rfl rfl) ?_
          | refine x_ibin rfl rfl rfl rfl rfl (okq_reg rfl rfl) ?_
          | refine x_len rfl rfl (by assumption) rfl (okq_reg rfl rfl) ?_
          | refine x_pick_t rfl rfl rfl rfl (okq_reg rfl rfl) ?_
          | refine x_pick_f rfl rfl rfl rfl (okq_reg rfl rfl) ?_
          | refine x_not rfl rfl rfl (okq_reg rfl rfl) ?_
          | refine x_extract rfl rfl rfl rfl (okq_reg rfl rfl) ?_
          | refine x_nilCheck rfl rfl rfl (okq_reg rfl rfl) ?_
          | refine x_fieldAddr rfl rfl rfl rfl (okq_reg rfl rfl) ?_
          | refine x_skip (okq_reg rfl rfl) rfl rfl rfl ?_
          | refine x_indexAddr1 rfl rfl rfl (by assumption) (by omega) (by omega) rfl (okq_reg rfl rfl) ?_
          | refine x_indexAddr rfl rfl rfl (by assumption) (by omega) (by omega) rfl (okq_reg rfl rfl) ?_
          | refine x_nil ?_
          | refine cw_seq ?_
          | refine nw_seq ?_
          | refine nw_block ?_
          | refine cw_block ?_
          | refine cw_skip ?_
          | refine cw_region ?_
          | refine cw_exit rfl ?_
          | refine cw_true rfl ?_
          | refine cw_false rfl ?_)
        refine x_load rfl rfl (hpmk rfl (fun _ hk => hk.cel c20 hnb)) rfl (okq_load rfl rfl (by assumption)) ?_
        repeat (first
          | refine x_move rfl rfl rfl (okq_reg rfl rfl) ?_
          | refine x_assign rfl rfl rfl (okq_reg rfl rfl) ?_
          | refine x_add rfl rfl rfl (wrap_i64 (by omega) (by omega)) rfl (okq_reg rfl rfl) ?_
          | refine x_sub_ rfl rfl rfl (wrap_i64 (by omega) (by omega)) rfl (okq_reg rfl rfl) ?_
          | refine x_sub_ rfl rfl rfl (wrap_u32 (by omega) (by omega)) rfl (okq_reg rfl rfl) ?_
          | refine x_mul rfl rfl rfl (wrap_i64 (by omega) (by omega)) rfl (okq_reg rfl rfl) ?_
          | refine x_ibin rfl rfl rfl rfl rfl (okq_reg rfl rfl) ?_
          | refine x_len rfl rfl (by assumption) rfl (okq_reg rfl rfl) ?_
          | refine x_pick_t rfl rfl rfl rfl (okq_reg rfl rfl) ?_
          | refine x_pick_f rfl rfl rfl rfl (okq_reg rfl rfl) ?_
          | refine x_not rfl rfl rfl (okq_reg rfl rfl) ?_
          | refine x_extract rfl rfl rfl rfl (okq_reg rfl rfl) ?_
          | refine x_nilCheck rfl rfl rfl (okq_reg rfl rfl) ?_
          | refine x_fieldAddr rfl rfl rfl rfl (okq_reg rfl rfl) ?_
          | refine x_skip (okq_reg rfl rfl) rfl rfl rfl ?_
          | refine x_indexAddr1 rfl rfl rfl (by assumption) (by omega) (by omega) rfl (okq_reg rfl rfl) ?_
          | refine x_indexAddr rfl rfl rfl (by assumption) (by omega) (by omega) rfl (okq_reg rfl rfl) ?_
          | refine x_nil ?_
          | refine cw_seq ?_
          | refine nw_seq ?_
          | refine nw_block ?_
          | refine cw_block ?_
          | refine cw_skip ?_
          | refine cw_region ?_
          | refine cw_exit rfl ?_
          | refine cw_true rfl ?_
          | refine cw_false rfl ?_)
        refine x_load rfl rfl (hpmk rfl (fun _ hk => hk.cel c21 hnb)) rfl (okq_load rfl rfl (by assumption)) ?_
        refine x_alt ?_ ?_
        · refine x_buildSlice (vs := [w]) rfl rfl rfl rfl (by omega) (oc_cons hwO oc_nil) rfl ⟨rfl, rfl⟩ ?_
          intro H3 nA
          refine ⟨okm_keep nA.keep (fun _ _ h => h.elim), ?_⟩
          have hMa := hMc.new nA
          have kcH3 := kc.step nA.keep (fun _ _ h => h.elim)
          have hMc := hMa
          have kc := kcH3
          refine x_alt ?_ ?_
          · obtain ⟨q, hq1, hq2⟩ := hMc.hS.row
            have hwc : BsR K1 _ w l := ⟨(hw2.1.keep kc (fun hne e => hn4 _ (hw2.2 hne) e)), hw2.2⟩
            refine x_append (v := vs) (by rfl) (by rfl) (by rfl) rfl rfl rfl hq2 (isSl_some (Nat.le_refl _) (by omega)) (m := 1) (cx := rws encS [w]) rfl (nA.blk.cels 0 1 (by simp)) (rws_oneC (fun x hx => by simp at hx; subst hx; exact oc_cons hwO oc_nil)) (by omega) rfl ⟨rfl, rfl⟩ ?_
            intro v' H4 apS
            refine ⟨okm_keep apS.keep (fun x _ e => .inl e.1), ?_⟩
            obtain ⟨hMs, arS⟩ := hMc.appS hq1 hwc apS
            have kcH4 := kc.step arS.keep (fun x _ e => .inl e.1)
            have kc := kcH4
            have hMc := hMs
            refine x_buildSlice (vs := [.bool true]) rfl rfl rfl rfl (by omega) (oc_cons rfl oc_nil) rfl ⟨rfl, rfl⟩ ?_
            intro H5 nB
            refine ⟨okm_keep nB.keep (fun _ _ h => h.elim), ?_⟩
            have hMb := hMc.new nB
            have kcH5 := kc.step nB.keep (fun _ _ h => h.elim)
            have hMc := hMb
            have kc := kcH5
            obtain ⟨qt, hqt1, hqt2⟩ := hMc.hT.row
            refine x_append (v := vt) (by rfl) (by rfl) (by rfl) rfl rfl rfl hqt2 (isSl_some (Nat.le_refl _) (by omega)) (m := 1) (cx := rws encB [true]) rfl (nB.blk.cels 0 1 (by simp)) (rws_oneC (fun x hx => by simp at hx; subst hx; exact oc_cons rfl oc_nil)) (by omega) rfl ⟨rfl, rfl⟩ ?_
            intro u' H6 apT
            refine ⟨okm_keep apT.keep (fun x _ e => .inr e.1), ?_⟩
            obtain ⟨hMt, arT⟩ := hMc.appT hqt1 apT
            have kcH6 := kc.step arT.keep (fun x _ e => .inr e.1)
            have kc := kcH6
            repeat (first
              | refine x_move rfl rfl rfl (okq_reg rfl rfl) ?_
              | refine x_assign rfl rfl rfl (okq_reg rfl rfl) ?_
              | refine x_add rfl rfl rfl (wrap_i64 (by omega) (by omega)) rfl (okq_reg rfl rfl) ?_
              | refine x_sub_ rfl rfl rfl (wrap_i64 (by omega) (by omega)) rfl (okq_reg rfl rfl) ?_
              | refine x_sub_ rfl rfl rfl (wrap_u32 (by omega) (by omega)) rfl (okq_reg rfl rfl) ?_
              | refine x_mul rfl rfl rfl (wrap_i64 (by omega) (by omega)) rfl (okq_reg rfl rfl) ?_
              | refine x_ibin rfl rfl rfl rfl rfl (okq_reg rfl rfl) ?_
              | refine x_len rfl rfl (by assumption) rfl (okq_reg rfl rfl) ?_
              | refine x_pick_t rfl rfl rfl rfl (okq_reg rfl rfl) ?_
              | refine x_pick_f rfl rfl rfl rfl (okq_reg rfl rfl) ?_
              | refine x_not rfl rfl rfl (okq_reg rfl rfl) ?_
              | refine x_extract rfl rfl rfl rfl (okq_reg rfl rfl) ?_
              | refine x_nilCheck rfl rfl rfl (okq_reg rfl rfl) ?_
              | refine x_fieldAddr rfl rfl rfl rfl (okq_reg rfl rfl) ?_
              | refine x_skip (okq_reg rfl rfl) rfl rfl rfl ?_
              | refine x_indexAddr1 rfl rfl rfl (by assumption) (by omega) (by omega) rfl (okq_reg rfl rfl) ?_
              | refine x_indexAddr rfl rfl rfl (by assumption) (by omega) (by omega) rfl (okq_reg rfl rfl) ?_
              | refine x_nil ?_
              | refine cw_seq ?_
              | refine nw_seq ?_
              | refine nw_block ?_
              | refine cw_block ?_
              | refine cw_skip ?_
              | refine cw_region ?_
              | refine cw_exit rfl ?_
              | refine cw_true rfl ?_
              | refine cw_false rfl ?_)
            refine x_store rfl rfl rfl (isSl_oneC hMt.hS.sl) hMt.hb (by simp) ⟨rfl, rfl⟩ ?_
            intro Hy hBy hky hsy
            refine ⟨okm_free (fun c => by cases c <;> kernel_rfl), ?_⟩
            have hMy := hMt.own hBy hky
            repeat (first
              | refine x_move rfl rfl rfl (okq_reg rfl rfl) ?_
              | refine x_assign rfl rfl rfl (okq_reg rfl rfl) ?_
              | refine x_add rfl rfl rfl (wrap_i64 (by omega) (by omega)) rfl (okq_reg rfl rfl) ?_
              | refine x_sub_ rfl rfl rfl (wrap_i64 (by omega) (by omega)) rfl (okq_reg rfl rfl) ?_
              | refine x_sub_ rfl rfl rfl (wrap_u32 (by omega) (by omega)) rfl (okq_reg rfl rfl) ?_
              | refine x_mul rfl rfl rfl (wrap_i64 (by omega) (by omega)) rfl (okq_reg rfl rfl) ?_
              | refine x_ibin rfl rfl rfl rfl rfl (okq_reg rfl rfl) ?_
              | refine x_len rfl rfl (by assumption) rfl (okq_reg rfl rfl) ?_
              | refine x_pick_t rfl rfl rfl rfl (okq_reg rfl rfl) ?_
              | refine x_pick_f rfl rfl rfl rfl (okq_reg rfl rfl) ?_
              | refine x_not rfl rfl rfl (okq_reg rfl rfl) ?_
              | refine x_extract rfl rfl rfl rfl (okq_reg rfl rfl) ?_
              | refine x_nilCheck rfl rfl rfl (okq_reg rfl rfl) ?_
              | refine x_fieldAddr rfl rfl rfl rfl (okq_reg rfl rfl) ?_
              | refine x_skip (okq_reg rfl rfl) rfl rfl rfl ?_
              | refine x_indexAddr1 rfl rfl rfl (by assumption) (by omega) (by omega) rfl (okq_reg rfl rfl) ?_
              | refine x_indexAddr rfl rfl rfl (by assumption) (by omega) (by omega) rfl (okq_reg rfl rfl) ?_
              | refine x_nil ?_
              | refine cw_seq ?_
              | refine nw_seq ?_
              | refine nw_block ?_
              | refine cw_block ?_
              | refine cw_skip ?_
              | refine cw_region ?_
              | refine cw_exit rfl ?_
              | refine cw_true rfl ?_
              | refine cw_false rfl ?_)
            refine x_store rfl rfl rfl (isSl_oneC hMt.hT.sl) hMy.hb (by simp) ⟨rfl, rfl⟩ ?_
            intro Hz hBz hkz hsz
            refine ⟨okm_free (fun c => by cases c <;> kernel_rfl), ?_⟩
            have hMz := hMy.own hBz hkz
            repeat (first
              | refine x_move rfl rfl rfl (okq_reg rfl rfl) ?_
              | refine x_assign rfl rfl rfl (okq_reg rfl rfl) ?_
              | refine x_add rfl rfl rfl (wrap_i64 (by omega) (by omega)) rfl (okq_reg rfl rfl) ?_
              | refine x_sub_ rfl rfl rfl (wrap_i64 (by omega) (by omega)) rfl (okq_reg rfl rfl) ?_
              | refine x_sub_ rfl rfl rfl (wrap_u32 (by omega) (by omega)) rfl (okq_reg rfl rfl) ?_
              | refine x_mul rfl rfl rfl (wrap_i64 (by omega) (by omega)) rfl (okq_reg rfl rfl) ?_
              | refine x_ibin rfl rfl rfl rfl rfl (okq_reg rfl rfl) ?_
              | refine x_len rfl rfl (by assumption) rfl (okq_reg rfl rfl) ?_
              | refine x_pick_t rfl rfl rfl rfl (okq_reg rfl rfl) ?_
              | refine x_pick_f rfl rfl rfl rfl (okq_reg rfl rfl) ?_
              | refine x_not rfl rfl rfl (okq_reg rfl rfl) ?_
              | refine x_extract rfl rfl rfl rfl (okq_reg rfl rfl) ?_
              | refine x_nilCheck rfl rfl rfl (okq_reg rfl rfl) ?_
              | refine x_fieldAddr rfl rfl rfl rfl (okq_reg rfl rfl) ?_
              | refine x_skip (okq_reg rfl rfl) rfl rfl rfl ?_
              | refine x_indexAddr1 rfl rfl rfl (by assumption) (by omega) (by omega) rfl (okq_reg rfl rfl) ?_
              | refine x_indexAddr rfl rfl rfl (by assumption) (by omega) (by omega) rfl (okq_reg rfl rfl) ?_
              | refine x_nil ?_
              | refine cw_seq ?_
              | refine nw_seq ?_
              | refine nw_block ?_
              | refine cw_block ?_
              | refine cw_skip ?_
              | refine cw_region ?_
              | refine cw_exit rfl ?_
              | refine cw_true rfl ?_
              | refine cw_false rfl ?_)
            refine nw_meet () (by repeat (first | exact True.intro | refine ⟨rfl, ?_⟩)) ⟨(k02.step kc fun x hx e => ?_).step (hky.step hkz fun x hx e => e) fun x hx e => .inl (by rw [e]; exact k1), (K1.set (sb v') 2).set (sb u') 5, ⟨fun x hx => ?_, ?_⟩, ?_⟩
            · rcases e with e | e
              · exact .inr (.inl (by rw [← hold x hx, e]; exact hM2.ks (pos_of' hM2.hS (by simp [tS]))))
              · exact .inr (.inr (.inr (by rw [← hold x hx, e]; exact hM2.kt (pos_of' hM2.hT (by simp [tB])))))
            · have := k02.size
              have := kcH3.size
              have := kcH4.size
              have := kcH5.size
              rw [arT.old x (by omega), arS.old x (by omega)]
              exact hold x hx
            · have := kc.size
              have := k02.size
              omega
            · refine Mid.sq (vs := v') (vt := u') (vb := vb) ?_
              have e3 : tS ⟨p.most, p.used + l.length, p.tx ++ [(l, true)], []⟩ = tS p ++ [l] := by simp [tS]
              have e4 : tB ⟨p.most, p.used + l.length, p.tx ++ [(l, true)], []⟩ = tB p ++ [true] := by simp [tB]
              rw [e3, e4]
              show Mid _ _ _ _ _ _ _ _ _ []
              rw [← hb0]
              exact hMz
          · refine x_buildSlice (vs := [.bool true]) rfl rfl rfl rfl (by omega) (oc_cons rfl oc_nil) rfl ⟨rfl, rfl⟩ ?_
            intro H4 nB
            refine ⟨okm_keep nB.keep (fun _ _ h => h.elim), ?_⟩
            have hMb := hMc.new nB
            have kcH4 := kc.step nB.keep (fun _ _ h => h.elim)
            have hMc := hMb
            have kc := kcH4
            obtain ⟨q, hq1, hq2⟩ := hMc.hS.row
            have hwc : BsR K1 _ w l := ⟨(hw2.1.keep kc (fun hne e => hn4 _ (hw2.2 hne) e)), hw2.2⟩
            refine x_append (v := vs) (by rfl) (by rfl) (by rfl) rfl rfl rfl hq2 (isSl_some (Nat.le_refl _) (by omega)) (m := 1) (cx := rws encS [w]) rfl ((nA.blk.keep nB.keep (fun h => h)).cels 0 1 (by simp)) (rws_oneC (fun x hx => by simp at hx; subst hx; exact oc_cons hwO oc_nil)) (by omega) rfl ⟨rfl, rfl⟩ ?_
            intro v' H5 apS
            refine ⟨okm_keep apS.keep (fun x _ e => .inl e.1), ?_⟩
            obtain ⟨hMs, arS⟩ := hMc.appS hq1 hwc apS
            have kcH5 := kc.step arS.keep (fun x _ e => .inl e.1)
            have kc := kcH5
            have hMc := hMs
            obtain ⟨qt, hqt1, hqt2⟩ := hMc.hT.row
            refine x_append (v := vt) (by rfl) (by rfl) (by rfl) rfl rfl rfl hqt2 (isSl_some (Nat.le_refl _) (by omega)) (m := 1) (cx := rws encB [true]) rfl ((nB.blk.keep apS.keep (fun e => by have := e.1; have := kcH3.size; omega)).cels 0 1 (by simp)) (rws_oneC (fun x hx => by simp at hx; subst hx; exact oc_cons rfl oc_nil)) (by omega) rfl ⟨rfl, rfl⟩ ?_
            intro u' H6 apT
            refine ⟨okm_keep apT.keep (fun x _ e => .inr e.1), ?_⟩
            obtain ⟨hMt, arT⟩ := hMc.appT hqt1 apT
            have kcH6 := kc.step arT.keep (fun x _ e => .inr e.1)
            have kc := kcH6
            repeat (first
              | refine x_move rfl rfl rfl (okq_reg rfl rfl) ?_
              | refine x_assign rfl rfl rfl (okq_reg rfl rfl) ?_
              | refine x_add rfl rfl rfl (wrap_i64 (by omega) (by omega)) rfl (okq_reg rfl rfl) ?_
              | refine x_sub_ rfl rfl rfl (wrap_i64 (by omega) (by omega)) rfl (okq_reg rfl rfl) ?_
              | refine x_sub_ rfl rfl rfl (wrap_u32 (by omega) (by omega)) rfl (okq_reg rfl rfl) ?_
              | refine x_mul rfl rfl rfl (wrap_i64 (by omega) (by omega)) rfl (okq_reg rfl rfl) ?_
              | refine x_ibin rfl rfl rfl rfl rfl (okq_reg rfl rfl) ?_
              | refine x_len rfl rfl (by assumption) rfl (okq_reg rfl rfl) ?_
              | refine x_pick_t rfl rfl rfl rfl (okq_reg rfl rfl) ?_
              | refine x_pick_f rfl rfl rfl rfl (okq_reg rfl rfl) ?_
              | refine x_not rfl rfl rfl (okq_reg rfl rfl) ?_
              | refine x_extract rfl rfl rfl rfl (okq_reg rfl rfl) ?_
              | refine x_nilCheck rfl rfl rfl (okq_reg rfl rfl) ?_
              | refine x_fieldAddr rfl rfl rfl rfl (okq_reg rfl rfl) ?_
              | refine x_skip (okq_reg rfl rfl) rfl rfl rfl ?_
              | refine x_indexAddr1 rfl rfl rfl (by assumption) (by omega) (by omega) rfl (okq_reg rfl rfl) ?_
              | refine x_indexAddr rfl rfl rfl (by assumption) (by omega) (by omega) rfl (okq_reg rfl rfl) ?_
              | refine x_nil ?_
              | refine cw_seq ?_
              | refine nw_seq ?_
              | refine nw_block ?_
              | refine cw_block ?_
              | refine cw_skip ?_
              | refine cw_region ?_
              | refine cw_exit rfl ?_
              | refine cw_true rfl ?_
              | refine cw_false rfl ?_)
            refine x_store rfl rfl rfl (isSl_oneC hMt.hS.sl) hMt.hb (by simp) ⟨rfl, rfl⟩ ?_
            intro Hy hBy hky hsy
            refine ⟨okm_free (fun c => by cases c <;> kernel_rfl), ?_⟩
            have hMy := hMt.own hBy hky
            repeat (first
              | refine x_move rfl rfl rfl (okq_reg rfl rfl) ?_
              | refine x_assign rfl rfl rfl (okq_reg rfl rfl) ?_
              | refine x_add rfl rfl rfl (wrap_i64 (by omega) (by omega)) rfl (okq_reg rfl rfl) ?_
              | refine x_sub_ rfl rfl rfl (wrap_i64 (by omega) (by omega)) rfl (okq_reg rfl rfl) ?_
              | refine x_sub_ rfl rfl rfl (wrap_u32 (by omega) (by omega)) rfl (okq_reg rfl rfl) ?_
              | refine x_mul rfl rfl rfl (wrap_i64 (by omega) (by omega)) rfl (okq_reg rfl rfl) ?_
              | refine x_ibin rfl rfl rfl rfl rfl (okq_reg rfl rfl) ?_
              | refine x_len rfl rfl (by assumption) rfl (okq_reg rfl rfl) ?_
              | refine x_pick_t rfl rfl rfl rfl (okq_reg rfl rfl) ?_
              | refine x_pick_f rfl rfl rfl rfl (okq_reg rfl rfl) ?_
              | refine x_not rfl rfl rfl (okq_reg rfl rfl) ?_
              | refine x_extract rfl rfl rfl rfl (okq_reg rfl rfl) ?_
              | refine x_nilCheck rfl rfl rfl (okq_reg rfl rfl) ?_
              | refine x_fieldAddr rfl rfl rfl rfl (okq_reg rfl rfl) ?_
              | refine x_skip (okq_reg rfl rfl) rfl rfl rfl ?_
              | refine x_indexAddr1 rfl rfl rfl (by assumption) (by omega) (by omega) rfl (okq_reg rfl rfl) ?_
              | refine x_indexAddr rfl rfl rfl (by assumption) (by omega) (by omega) rfl (okq_reg rfl rfl) ?_
              | refine x_nil ?_
              | refine cw_seq ?_
              | refine nw_seq ?_
              | refine nw_block ?_
              | refine cw_block ?_
              | refine cw_skip ?_
              | refine cw_region ?_
              | refine cw_exit rfl ?_
              | refine cw_true rfl ?_
              | refine cw_false rfl ?_)
            refine x_store rfl rfl rfl (isSl_oneC hMt.hT.sl) hMy.hb (by simp) ⟨rfl, rfl⟩ ?_
            intro Hz hBz hkz hsz
            refine ⟨okm_free (fun c => by cases c <;> kernel_rfl), ?_⟩
            have hMz := hMy.own hBz hkz
            repeat (first
              | refine x_move rfl rfl rfl (okq_reg rfl rfl) ?_
              | refine x_assign rfl rfl rfl (okq_reg rfl rfl) ?_
              | refine x_add rfl rfl rfl (wrap_i64 (by omega) (by omega)) rfl (okq_reg rfl rfl) ?_
              | refine x_sub_ rfl rfl rfl (wrap_i64 (by omega) (by omega)) rfl (okq_reg rfl rfl) ?_
              | refine x_sub_ rfl rfl rfl (wrap_u32 (by omega) (by omega)) rfl (okq_reg rfl rfl) ?_
              | refine x_mul rfl rfl rfl (wrap_i64 (by omega) (by omega)) rfl (okq_reg rfl rfl) ?_
              | refine x_ibin rfl rfl rfl rfl rfl (okq_reg rfl rfl) ?_
              | refine x_len rfl rfl (by assumption) rfl (okq_reg rfl rfl) ?_
              | refine x_pick_t rfl rfl rfl rfl (okq_reg rfl rfl) ?_
              | refine x_pick_f rfl rfl rfl rfl (okq_reg rfl rfl) ?_
              | refine x_not rfl rfl rfl (okq_reg rfl rfl) ?_
              | refine x_extract rfl rfl rfl rfl (okq_reg rfl rfl) ?_
              | refine x_nilCheck rfl rfl rfl (okq_reg rfl rfl) ?_
              | refine x_fieldAddr rfl rfl rfl rfl (okq_reg rfl rfl) ?_
              | refine x_skip (okq_reg rfl rfl) rfl rfl rfl ?_
              | refine x_indexAddr1 rfl rfl rfl (by assumption) (by omega) (by omega) rfl (okq_reg rfl rfl) ?_
              | refine x_indexAddr rfl rfl rfl (by assumption) (by omega) (by omega) rfl (okq_reg rfl rfl) ?_
              | refine x_nil ?_
              | refine cw_seq ?_
              | refine nw_seq ?_
              | refine nw_block ?_
              | refine cw_block ?_
              | refine cw_skip ?_
              | refine cw_region ?_
              | refine cw_exit rfl ?_
              | refine cw_true rfl ?_
              | refine cw_false rfl ?_)
            refine nw_meet () (by repeat (first | exact True.intro | refine ⟨rfl, ?_⟩)) ⟨(k02.step kc fun x hx e => ?_).step (hky.step hkz fun x hx e => e) fun x hx e => .inl (by rw [e]; exact k1), (K1.set (sb v') 2).set (sb u') 5, ⟨fun x hx => ?_, ?_⟩, ?_⟩
            · rcases e with e | e
              · exact .inr (.inl (by rw [← hold x hx, e]; exact hM2.ks (pos_of' hM2.hS (by simp [tS]))))
              · exact .inr (.inr (.inr (by rw [← hold x hx, e]; exact hM2.kt (pos_of' hM2.hT (by simp [tB])))))
            · have := k02.size
              have := kcH3.size
              have := kcH4.size
              have := kcH5.size
              rw [arT.old x (by omega), arS.old x (by omega)]
              exact hold x hx
            · have := kc.size
              have := k02.size
              omega
            · refine Mid.sq (vs := v') (vt := u') (vb := vb) ?_
              have e3 : tS ⟨p.most, p.used + l.length, p.tx ++ [(l, true)], []⟩ = tS p ++ [l] := by simp [tS]
              have e4 : tB ⟨p.most, p.used + l.length, p.tx ++ [(l, true)], []⟩ = tB p ++ [true] := by simp [tB]
              rw [e3, e4]
              show Mid _ _ _ _ _ _ _ _ _ []
              rw [← hb0]
              exact hMz
        · refine x_buildSlice (vs := [.bool true]) rfl rfl rfl rfl (by omega) (oc_cons rfl oc_nil) rfl ⟨rfl, rfl⟩ ?_
          intro H3 nB
          refine ⟨okm_keep nB.keep (fun _ _ h => h.elim), ?_⟩
          have hMb := hMc.new nB
          have kcH3 := kc.step nB.keep (fun _ _ h => h.elim)
          have hMc := hMb
          have kc := kcH3
          refine x_buildSlice (vs := [w]) rfl rfl rfl rfl (by omega) (oc_cons hwO oc_nil) rfl ⟨rfl, rfl⟩ ?_
          intro H4 nA
          refine ⟨okm_keep nA.keep (fun _ _ h => h.elim), ?_⟩
          have hMa := hMc.new nA
          have kcH4 := kc.step nA.keep (fun _ _ h => h.elim)
          have hMc := hMa
          have kc := kcH4
          obtain ⟨q, hq1, hq2⟩ := hMc.hS.row
          have hwc : BsR K1 _ w l := ⟨(hw2.1.keep kc (fun hne e => hn4 _ (hw2.2 hne) e)), hw2.2⟩
          refine x_append (v := vs) (by rfl) (by rfl) (by rfl) rfl rfl rfl hq2 (isSl_some (Nat.le_refl _) (by omega)) (m := 1) (cx := rws encS [w]) rfl (nA.blk.cels 0 1 (by simp)) (rws_oneC (fun x hx => by simp at hx; subst hx; exact oc_cons hwO oc_nil)) (by omega) rfl ⟨rfl, rfl⟩ ?_
          intro v' H5 apS
          refine ⟨okm_keep apS.keep (fun x _ e => .inl e.1), ?_⟩
          obtain ⟨hMs, arS⟩ := hMc.appS hq1 hwc apS
          have kcH5 := kc.step arS.keep (fun x _ e => .inl e.1)
          have kc := kcH5
          have hMc := hMs
          obtain ⟨qt, hqt1, hqt2⟩ := hMc.hT.row
          refine x_append (v := vt) (by rfl) (by rfl) (by rfl) rfl rfl rfl hqt2 (isSl_some (Nat.le_refl _) (by omega)) (m := 1) (cx := rws encB [true]) rfl (((nB.blk.keep nA.keep (fun h => h)).keep apS.keep (fun e => by have := e.1; omega)).cels 0 1 (by simp)) (rws_oneC (fun x hx => by simp at hx; subst hx; exact oc_cons rfl oc_nil)) (by omega) rfl ⟨rfl, rfl⟩ ?_
          intro u' H6 apT
          refine ⟨okm_keep apT.keep (fun x _ e => .inr e.1), ?_⟩
          obtain ⟨hMt, arT⟩ := hMc.appT hqt1 apT
          have kcH6 := kc.step arT.keep (fun x _ e => .inr e.1)
          have kc := kcH6
          repeat (first
            | refine x_move rfl rfl rfl (okq_reg rfl rfl) ?_
            | refine x_assign rfl rfl rfl (okq_reg rfl rfl) ?_
            | refine x_add rfl rfl rfl (wrap_i64 (by omega) (by omega)) rfl (okq_reg rfl rfl) ?_
            | refine x_sub_ rfl rfl rfl (wrap_i64 (by omega) (by omega)) rfl (okq_reg rfl rfl) ?_
            | refine x_sub_ rfl rfl rfl (wrap_u32 (by omega) (by omega)) rfl (okq_reg rfl rfl) ?_
            | refine x_mul rfl rfl rfl (wrap_i64 (by omega) (by omega)) rfl (okq_reg rfl rfl) ?_
            | refine x_ibin rfl rfl rfl rfl rfl (okq_reg rfl rfl) ?_
            | refine x_len rfl rfl (by assumption) rfl (okq_reg rfl rfl) ?_
            | refine x_pick_t rfl rfl rfl rfl (okq_reg rfl rfl) ?_
            | refine x_pick_f rfl rfl rfl rfl (okq_reg rfl rfl) ?_
            | refine x_not rfl rfl rfl (okq_reg rfl rfl) ?_
            | refine x_extract rfl rfl rfl rfl (okq_reg rfl rfl) ?_
            | refine x_nilCheck rfl rfl rfl (okq_reg rfl rfl) ?_
            | refine x_fieldAddr rfl rfl rfl rfl (okq_reg rfl rfl) ?_
            | refine x_skip (okq_reg rfl rfl) rfl rfl rfl ?_
            | refine x_indexAddr1 rfl rfl rfl (by assumption) (by omega) (by omega) rfl (okq_reg rfl rfl) ?_
            | refine x_indexAddr rfl rfl rfl (by assumption) (by omega) (by omega) rfl (okq_reg rfl rfl) ?_
            | refine x_nil ?_
            | refine cw_seq ?_
            | refine nw_seq ?_
            | refine nw_block ?_
            | refine cw_block ?_
            | refine cw_skip ?_
            | refine cw_region ?_
            | refine cw_exit rfl ?_
            | refine cw_true rfl ?_
            | refine cw_false rfl ?_)
          refine x_store rfl rfl rfl (isSl_oneC hMt.hS.sl) hMt.hb (by simp) ⟨rfl, rfl⟩ ?_
          intro Hy hBy hky hsy
          refine ⟨okm_free (fun c => by cases c <;> kernel_rfl), ?_⟩
          have hMy := hMt.own hBy hky
          repeat (first
            | refine x_move rfl rfl rfl (okq_reg rfl rfl) ?_
            | refine x_assign rfl rfl rfl (okq_reg rfl rfl) ?_
            | refine x_add rfl rfl rfl (wrap_i64 (by omega) (by omega)) rfl (okq_reg rfl rfl) ?_
            | refine x_sub_ rfl rfl rfl (wrap_i64 (by omega) (by omega)) rfl (okq_reg rfl rfl) ?_
            | refine x_sub_ rfl rfl rfl (wrap_u32 (by omega) (by omega)) rfl (okq_reg rfl rfl) ?_
            | refine x_mul rfl rfl rfl (wrap_i64 (by omega) (by omega)) rfl (okq_reg rfl rfl) ?_
            | refine x_ibin rfl rfl rfl rfl rfl (okq_reg rfl rfl) ?_
            | refine x_len rfl rfl (by assumption) rfl (okq_reg rfl rfl) ?_
            | refine x_pick_t rfl rfl rfl rfl (okq_reg rfl rfl) ?_
            | refine x_pick_f rfl rfl rfl rfl (okq_reg rfl rfl) ?_
            | refine x_not rfl rfl rfl (okq_reg rfl rfl) ?_
            | refine x_extract rfl rfl rfl rfl (okq_reg rfl rfl) ?_
            | refine x_nilCheck rfl rfl rfl (okq_reg rfl rfl) ?_
            | refine x_fieldAddr rfl rfl rfl rfl (okq_reg rfl rfl) ?_
            | refine x_skip (okq_reg rfl rfl) rfl rfl rfl ?_
            | refine x_indexAddr1 rfl rfl rfl (by assumption) (by omega) (by omega) rfl (okq_reg rfl rfl) ?_
            | refine x_indexAddr rfl rfl rfl (by assumption) (by omega) (by omega) rfl (okq_reg rfl rfl) ?_
            | refine x_nil ?_
            | refine cw_seq ?_
            | refine nw_seq ?_
            | refine nw_block ?_
            | refine cw_block ?_
            | refine cw_skip ?_
            | refine cw_region ?_
            | refine cw_exit rfl ?_
            | refine cw_true rfl ?_
            | refine cw_false rfl ?_)
          refine x_store rfl rfl rfl (isSl_oneC hMt.hT.sl) hMy.hb (by simp) ⟨rfl, rfl⟩ ?_
          intro Hz hBz hkz hsz
          refine ⟨okm_free (fun c => by cases c <;> kernel_rfl), ?_⟩
          have hMz := hMy.own hBz hkz
          repeat (first
            | refine x_move rfl rfl rfl (okq_reg rfl rfl) ?_
            | refine x_assign rfl rfl rfl (okq_reg rfl rfl) ?_
            | refine x_add rfl rfl rfl (wrap_i64 (by omega) (by omega)) rfl (okq_reg rfl rfl) ?_
            | refine x_sub_ rfl rfl rfl (wrap_i64 (by omega) (by omega)) rfl (okq_reg rfl rfl) ?_
            | refine x_sub_ rfl rfl rfl (wrap_u32 (by omega) (by omega)) rfl (okq_reg rfl rfl) ?_
            | refine x_mul rfl rfl rfl (wrap_i64 (by omega) (by omega)) rfl (okq_reg rfl rfl) ?_
            | refine x_ibin rfl rfl rfl rfl rfl (okq_reg rfl rfl) ?_
            | refine x_len rfl rfl (by assumption) rfl (okq_reg rfl rfl) ?_
            | refine x_pick_t rfl rfl rfl rfl (okq_reg rfl rfl) ?_
            | refine x_pick_f rfl rfl rfl rfl (okq_reg rfl rfl) ?_
            | refine x_not rfl rfl rfl (okq_reg rfl rfl) ?_
            | refine x_extract rfl rfl rfl rfl (okq_reg rfl rfl) ?_
            | refine x_nilCheck rfl rfl rfl (okq_reg rfl rfl) ?_
            | refine x_fieldAddr rfl rfl rfl rfl (okq_reg rfl rfl) ?_
            | refine x_skip (okq_reg rfl rfl) rfl rfl rfl ?_
            | refine x_indexAddr1 rfl rfl rfl (by assumption) (by omega) (by omega) rfl (okq_reg rfl rfl) ?_
            | refine x_indexAddr rfl rfl rfl (by assumption) (by omega) (by omega) rfl (okq_reg rfl rfl) ?_
            | refine x_nil ?_
            | refine cw_seq ?_
            | refine nw_seq ?_
            | refine nw_block ?_
            | refine cw_block ?_
            | refine cw_skip ?_
            | refine cw_region ?_
            | refine cw_exit rfl ?_
            | refine cw_true rfl ?_
            | refine cw_false rfl ?_)
          refine nw_meet () (by repeat (first | exact True.intro | refine ⟨rfl, ?_⟩)) ⟨(k02.step kc fun x hx e => ?_).step (hky.step hkz fun x hx e => e) fun x hx e => .inl (by rw [e]; exact k1), (K1.set (sb v') 2).set (sb u') 5, ⟨fun x hx => ?_, ?_⟩, ?_⟩
          · rcases e with e | e
            · exact .inr (.inl (by rw [← hold x hx, e]; exact hM2.ks (pos_of' hM2.hS (by simp [tS]))))
            · exact .inr (.inr (.inr (by rw [← hold x hx, e]; exact hM2.kt (pos_of' hM2.hT (by simp [tB])))))
          · have := k02.size
            have := kcH3.size
            have := kcH4.size
            have := kcH5.size
            rw [arT.old x (by omega), arS.old x (by omega)]
            exact hold x hx
          · have := kc.size
            have := k02.size
            omega
          · refine Mid.sq (vs := v') (vt := u') (vb := vb) ?_
            have e3 : tS ⟨p.most, p.used + l.length, p.tx ++ [(l, true)], []⟩ = tS p ++ [l] := by simp [tS]
            have e4 : tB ⟨p.most, p.used + l.length, p.tx ++ [(l, true)], []⟩ = tB p ++ [true] := by simp [tB]
            rw [e3, e4]
            show Mid _ _ _ _ _ _ _ _ _ []
            rw [← hb0]
            exact hMz
      · rintro _ H7 ⟨hk7, K', hK', hS7⟩
        obtain ⟨vs', vt', vb', hM7⟩ := hS7.mid
        have c70 : cel H7 b 0 = some vs' := by rw [hM7.hb.cel]; rfl
        have s7 := hM7.hS.sl
        have e3 : tS ⟨p.most, p.used + l.length, p.tx ++ [(l, true)], []⟩ = tS p ++ [l] := by simp [tS]
        rw [e3, List.length_append, e1] at s7
        simp only [List.length_cons, List.length_nil] at s7
        repeat (first
          | refine x_move rfl rfl rfl trivial ?_
          | refine x_assign rfl rfl rfl trivial ?_
          | refine x_add rfl rfl rfl (wrap_i64 (by omega) (by omega)) rfl trivial ?_
          | refine x_sub_ rfl rfl rfl (wrap_i64 (by omega) (by omega)) rfl trivial ?_
          | refine x_sub_ rfl rfl rfl (wrap_u32 (by omega) (by omega)) rfl trivial ?_
          | refine x_add rfl rfl rfl (wrap_u32 (by omega) (by omega)) rfl trivial ?_
          | refine x_peqn rfl rfl rfl rfl trivial ?_
          | refine x_pnen rfl rfl rfl rfl trivial ?_
          | refine x_mul rfl rfl rfl (wrap_i64 (by omega) (by omega)) rfl trivial ?_
          | refine x_ibin rfl rfl rfl rfl rfl trivial ?_
          | refine x_neg_ rfl rfl (wrap_i64 (by omega) (by omega)) rfl trivial ?_
          | refine x_len rfl rfl (by assumption) rfl trivial ?_
          | refine x_pick_t rfl rfl rfl rfl trivial ?_
          | refine x_pick_f rfl rfl rfl rfl trivial ?_
          | refine x_not rfl rfl rfl trivial ?_
          | refine x_beq rfl rfl rfl rfl trivial ?_
          | refine x_bne rfl rfl rfl rfl trivial ?_
          | refine x_extract rfl rfl rfl rfl trivial ?_
          | refine x_nilCheck rfl rfl rfl trivial ?_
          | refine x_fieldAddr rfl rfl rfl rfl trivial ?_
          | refine x_skip trivial rfl rfl rfl ?_
          | refine x_indexAddr1 rfl rfl rfl (by assumption) (by omega) (by omega) rfl trivial ?_
          | refine x_indexAddr rfl rfl rfl (by assumption) (by omega) (by omega) rfl trivial ?_
          | refine x_nil ?_
          | refine cw_seq ?_
          | refine nw_seq ?_
          | refine nw_block ?_
          | refine cw_block ?_
          | refine cw_skip ?_
          | refine cw_region ?_
          | refine cw_exit rfl ?_
          | refine cw_true rfl ?_
          | refine cw_false rfl ?_)
        refine x_load rfl rfl (hpmt (c70)) rfl trivial ?_
        repeat (first
          | refine x_move rfl rfl rfl trivial ?_
          | refine x_assign rfl rfl rfl trivial ?_
          | refine x_add rfl rfl rfl (wrap_i64 (by omega) (by omega)) rfl trivial ?_
          | refine x_sub_ rfl rfl rfl (wrap_i64 (by omega) (by omega)) rfl trivial ?_
          | refine x_sub_ rfl rfl rfl (wrap_u32 (by omega) (by omega)) rfl trivial ?_
          | refine x_add rfl rfl rfl (wrap_u32 (by omega) (by omega)) rfl trivial ?_
          | refine x_peqn rfl rfl rfl rfl trivial ?_
          | refine x_pnen rfl rfl rfl rfl trivial ?_
          | refine x_mul rfl rfl rfl (wrap_i64 (by omega) (by omega)) rfl trivial ?_
          | refine x_ibin rfl rfl rfl rfl rfl trivial ?_
          | refine x_neg_ rfl rfl (wrap_i64 (by omega) (by omega)) rfl trivial ?_
          | refine x_len rfl rfl (by assumption) rfl trivial ?_
          | refine x_pick_t rfl rfl rfl rfl trivial ?_
          | refine x_pick_f rfl rfl rfl rfl trivial ?_
          | refine x_not rfl rfl rfl trivial ?_
          | refine x_beq rfl rfl rfl rfl trivial ?_
          | refine x_bne rfl rfl rfl rfl trivial ?_
          | refine x_extract rfl rfl rfl rfl trivial ?_
          | refine x_nilCheck rfl rfl rfl trivial ?_
          | refine x_fieldAddr rfl rfl rfl rfl trivial ?_
          | refine x_skip trivial rfl rfl rfl ?_
          | refine x_indexAddr1 rfl rfl rfl (by assumption) (by omega) (by omega) rfl trivial ?_
          | refine x_indexAddr rfl rfl rfl (by assumption) (by omega) (by omega) rfl trivial ?_
          | refine x_nil ?_
          | refine cw_seq ?_
          | refine nw_seq ?_
          | refine nw_block ?_
          | refine cw_block ?_
          | refine cw_skip ?_
          | refine cw_region ?_
          | refine cw_exit rfl ?_
          | refine cw_true rfl ?_
          | refine cw_false rfl ?_)
        refine x_conv_int rfl rfl rfl trivial ?_
        rw [wrap_u32 (by omega) (by omega)]
        repeat (first
          | refine x_move rfl rfl rfl trivial ?_
          | refine x_assign rfl rfl rfl trivial ?_
          | refine x_add rfl rfl rfl (wrap_i64 (by omega) (by omega)) rfl trivial ?_
          | refine x_sub_ rfl rfl rfl (wrap_i64 (by omega) (by omega)) rfl trivial ?_
          | refine x_sub_ rfl rfl rfl (wrap_u32 (by omega) (by omega)) rfl trivial ?_
          | refine x_add rfl rfl rfl (wrap_u32 (by omega) (by omega)) rfl trivial ?_
          | refine x_peqn rfl rfl rfl rfl trivial ?_
          | refine x_pnen rfl rfl rfl rfl trivial ?_
          | refine x_mul rfl rfl rfl (wrap_i64 (by omega) (by omega)) rfl trivial ?_
          | refine x_ibin rfl rfl rfl rfl rfl trivial ?_
          | refine x_neg_ rfl rfl (wrap_i64 (by omega) (by omega)) rfl trivial ?_
          | refine x_len rfl rfl (by assumption) rfl trivial ?_
          | refine x_pick_t rfl rfl rfl rfl trivial ?_
          | refine x_pick_f rfl rfl rfl rfl trivial ?_
          | refine x_not rfl rfl rfl trivial ?_
          | refine x_beq rfl rfl rfl rfl trivial ?_
          | refine x_bne rfl rfl rfl rfl trivial ?_
          | refine x_extract rfl rfl rfl rfl trivial ?_
          | refine x_nilCheck rfl rfl rfl trivial ?_
          | refine x_fieldAddr rfl rfl rfl rfl trivial ?_
          | refine x_skip trivial rfl rfl rfl ?_
          | refine x_indexAddr1 rfl rfl rfl (by assumption) (by omega) (by omega) rfl trivial ?_
          | refine x_indexAddr rfl rfl rfl (by assumption) (by omega) (by omega) rfl trivial ?_
          | refine x_nil ?_
          | refine cw_seq ?_
          | refine nw_seq ?_
          | refine nw_block ?_
          | refine cw_block ?_
          | refine cw_skip ?_
          | refine cw_region ?_
          | refine cw_exit rfl ?_
          | refine cw_true rfl ?_
          | refine cw_false rfl ?_)
        refine cw_ret2 rfl rfl rfl ⟨?_, hk7, K', hK', hS7⟩
        congr 3
        simp
end Go.Proofs.Ytjknjlofkecflaa.X
