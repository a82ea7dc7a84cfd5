/- The statement ArenaWords. -/
import Derived.Test.YtioaicleodjmpaaLArena
namespace Go.Proofs.Ytioaicleodjmpaa.X
open Go Go.Proofs
set_option linter.unusedVariables false
set_option linter.unusedSimpArgs false
set_option maxRecDepth 10000
set_option maxHeartbeats 4000000

def wd (i k : Nat) : Int := IntKind.u64.wrap (100 * (i : Int) + (k : Int))
def sz (zs : List Int) (i : Nat) : Nat := (low (zs.getD i 0) 65).toNat
def cB (zs : List Int) (i : Nat) : Ce := ((List.range (sz zs i)).map (wd i), true)
abbrev A0 (zs : List Int) (i : Nat) : Ar := ⟨20, (List.range i).map (cB zs), []⟩
theorem sz_bd (zs : List Int) (i : Nat) : sz zs i < 65 := by
  have := low_bd (zs.getD i 0) (m := 65) (by omega)
  unfold sz
  omega
theorem sz_at {zs : List Int} {i : Nat} {t : Int} (h : zs[i]? = some t) : low t 65 = (sz zs i : Int) := by
  have := low_bd t (m := 65) (by omega)
  unfold sz
  rw [List.getD_eq_getElem?_getD, h]
  show _ = (((low t 65).toNat : Nat) : Int)
  omega
def encW (x : Int) : List Value := [.int .u64 x]
theorem encW_len (x : Int) : (encW x).length = 1 := rfl
theorem rws_encW (l : List Int) : rws encW l = u64s l := by
  induction l with
  | nil => rfl
  | cons x l ih => rw [rws_cons, ih]; rfl
theorem al_eq {q l : List Int} (h : Al Eq q l) : q = l := by
  refine List.ext_getElem h.len (fun i h1 h2 => ?_)
  exact h.at_ i _ _ (List.getElem?_eq_getElem h1) (List.getElem?_eq_getElem h2)
theorem ws_of {H : Heap} {v : Value} {l : List Int} (h : Rw encW 1 Eq H v l) : Ws H v l := by
  obtain ⟨q, h1, h2⟩ := h.row
  refine ⟨h.sl, ?_⟩
  rw [← rws_encW, ← al_eq h1]
  exact h2.cels
theorem wapp {H0 H H1 H' : Heap} {b : Nat} {a : Ar} {v v' : Value} {l : List Int} {q : List Int} {h : Int} (hA : As (Zn v) H0 H b a) (hk : Keep Non H H1) (hq : Al Eq q l) (ap : App 1 H1 H' v v' l.length (rws encW q) (rws encW [h]) 1) : As (Zn v') H0 H' b a ∧ Rw encW 1 Eq H' v' (l ++ [h]) := by
  have hR := Rw.app (R := Eq) (R' := Eq) hq rfl (Al.one rfl) (fun _ _ h => h) ap
  have h0 := hR.sl.cap.1
  rw [List.length_append] at h0
  simp only [List.length_cons, List.length_nil] at h0
  refine ⟨(hA.stepN hk).step ap.keep (fun x e => ⟨e.1, by omega⟩) (fun x e => ⟨?_, by rw [e.1]; exact hR.lt e.2⟩), hR⟩
  rcases ap.place with ⟨e1, e2, e3, e4, _⟩ | ⟨e1, _⟩
  · exact .inl ⟨by rw [e.1, e1], by omega⟩
  · exact .inr (by rw [e.1, e1]; exact Nat.le_refl _)
theorem A0_len (zs : List Int) (i : Nat) : (A0 zs i).cs.length = i := by simp
theorem A0_at (zs : List Int) {i j : Nat} (h : j < i) : (A0 zs i).cs[j]? = some (cB zs j) := by
  show ((List.range i).map (cB zs))[j]? = _
  rw [List.getElem?_map, List.getElem?_range h]
  rfl
theorem A0_taken (zs : List Int) (i : Nat) : takenA ((List.range i).map (cB zs)) = i := by
  unfold takenA
  rw [List.filter_eq_self.2]
  · simp
  · intro x hx
    obtain ⟨j, _, rfl⟩ := List.mem_map.1 hx
    rfl
theorem A0_live (zs : List Int) (i : Nat) : liveA (A0 zs i) = i := by simp [liveA]
theorem A0_wf (zs : List Int) {i : Nat} (h : i ≤ 20) : (A0 zs i).Wf :=
  ⟨⟨by simp only; omega, by simp only; omega⟩, by rw [A0_live]; simp only; omega, by simp, by simp, by simp [A0_taken]⟩
theorem A0_take (zs : List Int) {i : Nat} (h : i < 20) : takeA (A0 zs i) ((List.range (sz zs i)).map (wd i)) = (((i + 1 : Nat) : Int), 0, A0 zs (i + 1)) := by
  have := sz_bd zs i
  unfold takeA
  rw [if_neg (by simp; omega), A0_live, if_neg (by simp only; omega)]
  simp [List.range_succ, cB]
theorem A0_size (zs : List Int) (i : Nat) : sizeA (A0 zs (i + 1)) (i + 1) = sz zs i := by
  have hg := A0_at zs (Nat.lt_succ_self i)
  unfold sizeA
  rw [if_pos (hasA_iff.2 ⟨by omega, _, hg⟩)]
  unfold wordsA
  rw [Nat.add_sub_cancel, hg]
  simp [cB]
theorem set_same {α : Type} {l : List α} {i : Nat} {x : α} (h : l[i]? = some x) : l.set i x = l := by
  apply List.ext_getElem?
  intro j
  rw [List.getElem?_set]
  by_cases hj : i = j
  · subst hj
    rw [if_pos rfl, if_pos (List.getElem?_eq_some_iff.1 h).1, h]
  · rw [if_neg hj]
theorem rd_at {a : Ar} {j k : Nat} {l : List Int} {x : Int} (g : a.cs[j]? = some (l, true)) (hx : l[k]? = some x) : errA a (j + 1) k = 0 ∧ getA a (j + 1) k = x := by
  have hhas : hasA a (j + 1) = true := hasA_iff.2 ⟨by omega, _, g⟩
  have hwd : wordsA a (j + 1) = l := by unfold wordsA; rw [Nat.add_sub_cancel, g]
  have hk := (List.getElem?_eq_some_iff.1 hx).1
  have he : errA a (j + 1) k = 0 := by
    unfold errA
    rw [if_neg (by rw [hhas]; simp), hwd, if_neg (by omega)]
  refine ⟨he, ?_⟩
  unfold getA
  rw [if_pos he, hwd, Int.toNat_natCast, hx]
  rfl
structure AW (zs : List Int) (W A : Nat) (w : Int) (L : Nat) (a : Ar) : Prop where
  wf : a.Wf
  live : liveA a = L
  most : a.most = 20
  len : a.cs.length = L
  back : a.back.length = 0
  at_ : ∀ j k, j < L → k < sz zs j → errA a (j + 1) k = 0 ∧ getA a (j + 1) k = if j = W ∧ k = A then w else wd j k
theorem A0_set (zs : List Int) {L W A : Nat} (w : Int) (hL : L ≤ 20) (hW : W < L) (hA : A ≤ sz zs W) :
    errA (A0 zs L) (W + 1) A = (if A < sz zs W then 0 else 2) ∧ AW zs W A w L (setA (A0 zs L) (W + 1) A w) := by
  have hg := A0_at zs hW
  have hhas : hasA (A0 zs L) (W + 1) = true := hasA_iff.2 ⟨by omega, _, hg⟩
  have hwd : wordsA (A0 zs L) (W + 1) = (List.range (sz zs W)).map (wd W) := by
    unfold wordsA
    rw [Nat.add_sub_cancel, hg]
    rfl
  have he : errA (A0 zs L) (W + 1) A = (if A < sz zs W then 0 else 2) := by
    unfold errA
    rw [if_neg (by rw [hhas]; simp), hwd, List.length_map, List.length_range]
    by_cases h : A < sz zs W
    · rw [if_pos h, if_neg (by omega)]
    · rw [if_neg h, if_pos (by omega)]
  refine ⟨he, ?_⟩
  have hs : setA (A0 zs L) (W + 1) A w = ⟨20, (A0 zs L).cs.set W (((List.range (sz zs W)).map (wd W)).set A w, true), []⟩ := by
    unfold setA
    rw [he, hwd, Int.toNat_natCast, Nat.add_sub_cancel]
    by_cases h : A < sz zs W
    · rw [if_pos h, if_pos rfl]
    · have e1 : ((List.range (sz zs W)).map (wd W)).set A w = (List.range (sz zs W)).map (wd W) := List.set_eq_of_length_le (by rw [List.length_map, List.length_range]; omega)
      rw [if_neg h, if_neg (show ¬ ((2 : Int) = 0) by omega), e1]
      show A0 zs L = (⟨20, (A0 zs L).cs.set W (cB zs W), []⟩ : Ar)
      rw [set_same hg]
  have hwf := setA_wf (A0_wf zs hL) (W + 1) A w
  rw [hs] at hwf ⊢
  refine ⟨hwf, by simp [liveA], rfl, by simp, rfl, fun j k hj hk => ?_⟩
  by_cases hjw : j = W
  · subst hjw
    refine rd_at (List.getElem?_set_self (by rw [A0_len]; exact hj)) ?_
    rw [List.getElem?_set]
    by_cases hkA : A = k
    · subst hkA
      rw [if_pos rfl, if_pos (by simpa using hk), if_pos ⟨rfl, rfl⟩]
    · rw [if_neg hkA, if_neg (fun h => hkA h.2.symm), List.getElem?_map, List.getElem?_range hk]
      rfl
  · refine rd_at (l := (List.range (sz zs j)).map (wd j)) ?_ ?_
    · show ((A0 zs L).cs.set W _)[j]? = _
      rw [List.getElem?_set_ne (fun e => hjw e.symm), A0_at zs hj]
      rfl
    · rw [if_neg (fun h => hjw h.1), List.getElem?_map, List.getElem?_range hk]
      rfl

theorem row_cel5 {H : Heap} {v : Value} {zs : List Int} (h : Cels H (sb v) (so v) (zs.map (Value.int .i64))) : ∀ (j : Nat) (x : Int), zs[j]? = some x → cel H (sb v) (so v + j) = some (.int .i64 x) := fun j x hx => by
  have hlt := (List.getElem?_eq_some_iff.1 hx).1
  rw [h j (by simpa using hlt), ← List.getElem?_eq_getElem, List.getElem?_map, hx]
  rfl

theorem walk_ArenaWords {va : Value} {zs : List Int} {wx ax w : Int} {H : Heap} (sA : IsSl va zs.length) (hA : ∀ (j : Nat) (x : Int), zs[j]? = some x → cel H (sb va) (so va + j) = some (.int .i64 x)) :
    Ret Try.prog 4 [va, .int .i64 wx, .int .i64 ax, .int .u64 w] H (Yes H) := by
  have cA := sA.cap
  refine ret_of Try.func4 rfl rfl rfl rfl ?_
  intro w0
  repeat (first
    | refine x_move rfl rfl rfl trivial ?_
    | refine x_assign rfl rfl rfl trivial ?_
    | refine x_add rfl rfl rfl (wrap_i64 (by omega) (by omega)) rfl trivial ?_
    | refine x_sub_ rfl rfl rfl (wrap_i64 (by omega) (by omega)) rfl trivial ?_
    | refine x_sub_ rfl rfl rfl (wrap_u32 (by omega) (by omega)) rfl trivial ?_
    | refine x_add rfl rfl rfl (wrap_u32 (by omega) (by omega)) rfl trivial ?_
    | refine x_peqn rfl rfl rfl rfl trivial ?_
    | refine x_pnen rfl rfl rfl rfl trivial ?_
    | refine x_mul rfl rfl rfl (wrap_i64 (by omega) (by omega)) rfl trivial ?_
    | refine x_ibin rfl rfl rfl rfl rfl trivial ?_
    | refine x_neg_ rfl rfl (wrap_i64 (by omega) (by omega)) rfl trivial ?_
    | refine x_len rfl rfl (by assumption) rfl trivial ?_
    | refine x_pick_t rfl rfl rfl rfl trivial ?_
    | refine x_pick_f rfl rfl rfl rfl trivial ?_
    | refine x_not rfl rfl rfl trivial ?_
    | refine x_beq rfl rfl rfl rfl trivial ?_
    | refine x_bne rfl rfl rfl rfl trivial ?_
    | refine x_extract rfl rfl rfl rfl trivial ?_
    | refine x_nilCheck rfl rfl rfl trivial ?_
    | refine x_fieldAddr rfl rfl rfl rfl trivial ?_
    | refine x_skip trivial rfl rfl rfl ?_
    | refine x_indexAddr1 rfl rfl rfl (by assumption) (by omega) (by omega) rfl trivial ?_
    | refine x_indexAddr rfl rfl rfl (by assumption) (by omega) (by omega) rfl trivial ?_
    | refine x_nil ?_
    | refine cw_seq ?_
    | refine nw_seq ?_
    | refine nw_block ?_
    | refine cw_block ?_
    | refine cw_skip ?_
    | refine cw_region ?_
    | refine cw_exit rfl ?_
    | refine cw_true rfl ?_
    | refine cw_false rfl ?_)
  refine x_split 25 rfl (fun hl1 => ?_) (fun hl1 => ?_) <;> (try simp at hl1)
  · repeat (first
      | refine x_move rfl rfl rfl trivial ?_
      | refine x_assign rfl rfl rfl trivial ?_
      | refine x_add rfl rfl rfl (wrap_i64 (by omega) (by omega)) rfl trivial ?_
      | refine x_sub_ rfl rfl rfl (wrap_i64 (by omega) (by omega)) rfl trivial ?_
      | refine x_sub_ rfl rfl rfl (wrap_u32 (by omega) (by omega)) rfl trivial ?_
      | refine x_add rfl rfl rfl (wrap_u32 (by omega) (by omega)) rfl trivial ?_
      | refine x_peqn rfl rfl rfl rfl trivial ?_
      | refine x_pnen rfl rfl rfl rfl trivial ?_
      | refine x_mul rfl rfl rfl (wrap_i64 (by omega) (by omega)) rfl trivial ?_
      | refine x_ibin rfl rfl rfl rfl rfl trivial ?_
      | refine x_neg_ rfl rfl (wrap_i64 (by omega) (by omega)) rfl trivial ?_
      | refine x_len rfl rfl (by assumption) rfl trivial ?_
      | refine x_pick_t rfl rfl rfl rfl trivial ?_
      | refine x_pick_f rfl rfl rfl rfl trivial ?_
      | refine x_not rfl rfl rfl trivial ?_
      | refine x_beq rfl rfl rfl rfl trivial ?_
      | refine x_bne rfl rfl rfl rfl trivial ?_
      | refine x_extract rfl rfl rfl rfl trivial ?_
      | refine x_nilCheck rfl rfl rfl trivial ?_
      | refine x_fieldAddr rfl rfl rfl rfl trivial ?_
      | refine x_skip trivial rfl rfl rfl ?_
      | refine x_indexAddr1 rfl rfl rfl (by assumption) (by omega) (by omega) rfl trivial ?_
      | refine x_indexAddr rfl rfl rfl (by assumption) (by omega) (by omega) rfl trivial ?_
      | refine x_nil ?_
      | refine cw_seq ?_
      | refine nw_seq ?_
      | refine nw_block ?_
      | refine cw_block ?_
      | refine cw_skip ?_
      | refine cw_region ?_
      | refine cw_exit rfl ?_
      | refine cw_true rfl ?_
      | refine cw_false rfl ?_)
    refine x_call rfl rfl rfl trivial (awake5 _) ?_
    rintro _ Hz ⟨rfl, hkz⟩
    refine ⟨trivial, ?_⟩
    repeat (first
      | refine x_move rfl rfl rfl trivial ?_
      | refine x_assign rfl rfl rfl trivial ?_
      | refine x_add rfl rfl rfl (wrap_i64 (by omega) (by omega)) rfl trivial ?_
      | refine x_sub_ rfl rfl rfl (wrap_i64 (by omega) (by omega)) rfl trivial ?_
      | refine x_sub_ rfl rfl rfl (wrap_u32 (by omega) (by omega)) rfl trivial ?_
      | refine x_add rfl rfl rfl (wrap_u32 (by omega) (by omega)) rfl trivial ?_
      | refine x_peqn rfl rfl rfl rfl trivial ?_
      | refine x_pnen rfl rfl rfl rfl trivial ?_
      | refine x_mul rfl rfl rfl (wrap_i64 (by omega) (by omega)) rfl trivial ?_
      | refine x_ibin rfl rfl rfl rfl rfl trivial ?_
      | refine x_neg_ rfl rfl (wrap_i64 (by omega) (by omega)) rfl trivial ?_
      | refine x_len rfl rfl (by assumption) rfl trivial ?_
      | refine x_pick_t rfl rfl rfl rfl trivial ?_
      | refine x_pick_f rfl rfl rfl rfl trivial ?_
      | refine x_not rfl rfl rfl trivial ?_
      | refine x_beq rfl rfl rfl rfl trivial ?_
      | refine x_bne rfl rfl rfl rfl trivial ?_
      | refine x_extract rfl rfl rfl rfl trivial ?_
      | refine x_nilCheck rfl rfl rfl trivial ?_
      | refine x_fieldAddr rfl rfl rfl rfl trivial ?_
      | refine x_skip trivial rfl rfl rfl ?_
      | refine x_indexAddr1 rfl rfl rfl (by assumption) (by omega) (by omega) rfl trivial ?_
      | refine x_indexAddr rfl rfl rfl (by assumption) (by omega) (by omega) rfl trivial ?_
      | refine x_nil ?_
      | refine cw_seq ?_
      | refine nw_seq ?_
      | refine nw_block ?_
      | refine cw_block ?_
      | refine cw_skip ?_
      | refine cw_region ?_
      | refine cw_exit rfl ?_
      | refine cw_true rfl ?_
      | refine cw_false rfl ?_)
    exact cw_ret1 rfl rfl ⟨rfl, (Keep.refl Non H).non_trans hkz⟩
  repeat (first
    | refine x_move rfl rfl rfl trivial ?_
    | refine x_assign rfl rfl rfl trivial ?_
    | refine x_add rfl rfl rfl (wrap_i64 (by omega) (by omega)) rfl trivial ?_
    | refine x_sub_ rfl rfl rfl (wrap_i64 (by omega) (by omega)) rfl trivial ?_
    | refine x_sub_ rfl rfl rfl (wrap_u32 (by omega) (by omega)) rfl trivial ?_
    | refine x_add rfl rfl rfl (wrap_u32 (by omega) (by omega)) rfl trivial ?_
    | refine x_peqn rfl rfl rfl rfl trivial ?_
    | refine x_pnen rfl rfl rfl rfl trivial ?_
    | refine x_mul rfl rfl rfl (wrap_i64 (by omega) (by omega)) rfl trivial ?_
    | refine x_ibin rfl rfl rfl rfl rfl trivial ?_
    | refine x_neg_ rfl rfl (wrap_i64 (by omega) (by omega)) rfl trivial ?_
    | refine x_len rfl rfl (by assumption) rfl trivial ?_
    | refine x_pick_t rfl rfl rfl rfl trivial ?_
    | refine x_pick_f rfl rfl rfl rfl trivial ?_
    | refine x_not rfl rfl rfl trivial ?_
    | refine x_beq rfl rfl rfl rfl trivial ?_
    | refine x_bne rfl rfl rfl rfl trivial ?_
    | refine x_extract rfl rfl rfl rfl trivial ?_
    | refine x_nilCheck rfl rfl rfl trivial ?_
    | refine x_fieldAddr rfl rfl rfl rfl trivial ?_
    | refine x_skip trivial rfl rfl rfl ?_
    | refine x_indexAddr1 rfl rfl rfl (by assumption) (by omega) (by omega) rfl trivial ?_
    | refine x_indexAddr rfl rfl rfl (by assumption) (by omega) (by omega) rfl trivial ?_
    | refine x_nil ?_
    | refine cw_seq ?_
    | refine nw_seq ?_
    | refine nw_block ?_
    | refine cw_block ?_
    | refine cw_skip ?_
    | refine cw_region ?_
    | refine cw_exit rfl ?_
    | refine cw_true rfl ?_
    | refine cw_false rfl ?_)
  refine cw_cond rfl (fun hl2 => ?_) (fun hl2 => ?_) <;> (try simp at hl2)
  · repeat (first
      | refine x_move rfl rfl rfl trivial ?_
      | refine x_assign rfl rfl rfl trivial ?_
      | refine x_add rfl rfl rfl (wrap_i64 (by omega) (by omega)) rfl trivial ?_
      | refine x_sub_ rfl rfl rfl (wrap_i64 (by omega) (by omega)) rfl trivial ?_
      | refine x_sub_ rfl rfl rfl (wrap_u32 (by omega) (by omega)) rfl trivial ?_
      | refine x_add rfl rfl rfl (wrap_u32 (by omega) (by omega)) rfl trivial ?_
      | refine x_peqn rfl rfl rfl rfl trivial ?_
      | refine x_pnen rfl rfl rfl rfl trivial ?_
      | refine x_mul rfl rfl rfl (wrap_i64 (by omega) (by omega)) rfl trivial ?_
      | refine x_ibin rfl rfl rfl rfl rfl trivial ?_
      | refine x_neg_ rfl rfl (wrap_i64 (by omega) (by omega)) rfl trivial ?_
      | refine x_len rfl rfl (by assumption) rfl trivial ?_
      | refine x_pick_t rfl rfl rfl rfl trivial ?_
      | refine x_pick_f rfl rfl rfl rfl trivial ?_
      | refine x_not rfl rfl rfl trivial ?_
      | refine x_beq rfl rfl rfl rfl trivial ?_
      | refine x_bne rfl rfl rfl rfl trivial ?_
      | refine x_extract rfl rfl rfl rfl trivial ?_
      | refine x_nilCheck rfl rfl rfl trivial ?_
      | refine x_fieldAddr rfl rfl rfl rfl trivial ?_
      | refine x_skip trivial rfl rfl rfl ?_
      | refine x_indexAddr1 rfl rfl rfl (by assumption) (by omega) (by omega) rfl trivial ?_
      | refine x_indexAddr rfl rfl rfl (by assumption) (by omega) (by omega) rfl trivial ?_
      | refine x_nil ?_
      | refine cw_seq ?_
      | refine nw_seq ?_
      | refine nw_block ?_
      | refine cw_block ?_
      | refine cw_skip ?_
      | refine cw_region ?_
      | refine cw_exit rfl ?_
      | refine cw_true rfl ?_
      | refine cw_false rfl ?_)
    refine x_call rfl rfl rfl trivial (awake5 _) ?_
    rintro _ Hz ⟨rfl, hkz⟩
    refine ⟨trivial, ?_⟩
    repeat (first
      | refine x_move rfl rfl rfl trivial ?_
      | refine x_assign rfl rfl rfl trivial ?_
      | refine x_add rfl rfl rfl (wrap_i64 (by omega) (by omega)) rfl trivial ?_
      | refine x_sub_ rfl rfl rfl (wrap_i64 (by omega) (by omega)) rfl trivial ?_
      | refine x_sub_ rfl rfl rfl (wrap_u32 (by omega) (by omega)) rfl trivial ?_
      | refine x_add rfl rfl rfl (wrap_u32 (by omega) (by omega)) rfl trivial ?_
      | refine x_peqn rfl rfl rfl rfl trivial ?_
      | refine x_pnen rfl rfl rfl rfl trivial ?_
      | refine x_mul rfl rfl rfl (wrap_i64 (by omega) (by omega)) rfl trivial ?_
      | refine x_ibin rfl rfl rfl rfl rfl trivial ?_
      | refine x_neg_ rfl rfl (wrap_i64 (by omega) (by omega)) rfl trivial ?_
      | refine x_len rfl rfl (by assumption) rfl trivial ?_
      | refine x_pick_t rfl rfl rfl rfl trivial ?_
      | refine x_pick_f rfl rfl rfl rfl trivial ?_
      | refine x_not rfl rfl rfl trivial ?_
      | refine x_beq rfl rfl rfl rfl trivial ?_
      | refine x_bne rfl rfl rfl rfl trivial ?_
      | refine x_extract rfl rfl rfl rfl trivial ?_
      | refine x_nilCheck rfl rfl rfl trivial ?_
      | refine x_fieldAddr rfl rfl rfl rfl trivial ?_
      | refine x_skip trivial rfl rfl rfl ?_
      | refine x_indexAddr1 rfl rfl rfl (by assumption) (by omega) (by omega) rfl trivial ?_
      | refine x_indexAddr rfl rfl rfl (by assumption) (by omega) (by omega) rfl trivial ?_
      | refine x_nil ?_
      | refine cw_seq ?_
      | refine nw_seq ?_
      | refine nw_block ?_
      | refine cw_block ?_
      | refine cw_skip ?_
      | refine cw_region ?_
      | refine cw_exit rfl ?_
      | refine cw_true rfl ?_
      | refine cw_false rfl ?_)
    exact cw_ret1 rfl rfl ⟨rfl, (Keep.refl Non H).non_trans hkz⟩
  repeat (first
    | refine x_move rfl rfl rfl trivial ?_
    | refine x_assign rfl rfl rfl trivial ?_
    | refine x_add rfl rfl rfl (wrap_i64 (by omega) (by omega)) rfl trivial ?_
    | refine x_sub_ rfl rfl rfl (wrap_i64 (by omega) (by omega)) rfl trivial ?_
    | refine x_sub_ rfl rfl rfl (wrap_u32 (by omega) (by omega)) rfl trivial ?_
    | refine x_add rfl rfl rfl (wrap_u32 (by omega) (by omega)) rfl trivial ?_
    | refine x_peqn rfl rfl rfl rfl trivial ?_
    | refine x_pnen rfl rfl rfl rfl trivial ?_
    | refine x_mul rfl rfl rfl (wrap_i64 (by omega) (by omega)) rfl trivial ?_
    | refine x_ibin rfl rfl rfl rfl rfl trivial ?_
    | refine x_neg_ rfl rfl (wrap_i64 (by omega) (by omega)) rfl trivial ?_
    | refine x_len rfl rfl (by assumption) rfl trivial ?_
    | refine x_pick_t rfl rfl rfl rfl trivial ?_
    | refine x_pick_f rfl rfl rfl rfl trivial ?_
    | refine x_not rfl rfl rfl trivial ?_
    | refine x_beq rfl rfl rfl rfl trivial ?_
    | refine x_bne rfl rfl rfl rfl trivial ?_
    | refine x_extract rfl rfl rfl rfl trivial ?_
    | refine x_nilCheck rfl rfl rfl trivial ?_
    | refine x_fieldAddr rfl rfl rfl rfl trivial ?_
    | refine x_skip trivial rfl rfl rfl ?_
    | refine x_indexAddr1 rfl rfl rfl (by assumption) (by omega) (by omega) rfl trivial ?_
    | refine x_indexAddr rfl rfl rfl (by assumption) (by omega) (by omega) rfl trivial ?_
    | refine x_nil ?_
    | refine cw_seq ?_
    | refine nw_seq ?_
    | refine nw_block ?_
    | refine cw_block ?_
    | refine cw_skip ?_
    | refine cw_region ?_
    | refine cw_exit rfl ?_
    | refine cw_true rfl ?_
    | refine cw_false rfl ?_)
  have hl3 : 0 < zs.length := List.length_pos_iff.2 hl2
  refine x_call rfl rfl rfl trivial (as_New 20 (by omega) H) ?_
  rintro _ H1 ⟨b, rfl, hA1⟩
  refine ⟨trivial, ?_⟩
  repeat (first
    | refine x_move rfl rfl rfl trivial ?_
    | refine x_assign rfl rfl rfl trivial ?_
    | refine x_add rfl rfl rfl (wrap_i64 (by omega) (by omega)) rfl trivial ?_
    | refine x_sub_ rfl rfl rfl (wrap_i64 (by omega) (by omega)) rfl trivial ?_
    | refine x_sub_ rfl rfl rfl (wrap_u32 (by omega) (by omega)) rfl trivial ?_
    | refine x_add rfl rfl rfl (wrap_u32 (by omega) (by omega)) rfl trivial ?_
    | refine x_peqn rfl rfl rfl rfl trivial ?_
    | refine x_pnen rfl rfl rfl rfl trivial ?_
    | refine x_mul rfl rfl rfl (wrap_i64 (by omega) (by omega)) rfl trivial ?_
    | refine x_ibin rfl rfl rfl rfl rfl trivial ?_
    | refine x_neg_ rfl rfl (wrap_i64 (by omega) (by omega)) rfl trivial ?_
    | refine x_len rfl rfl (by assumption) rfl trivial ?_
    | refine x_pick_t rfl rfl rfl rfl trivial ?_
    | refine x_pick_f rfl rfl rfl rfl trivial ?_
    | refine x_not rfl rfl rfl trivial ?_
    | refine x_beq rfl rfl rfl rfl trivial ?_
    | refine x_bne rfl rfl rfl rfl trivial ?_
    | refine x_extract rfl rfl rfl rfl trivial ?_
    | refine x_nilCheck rfl rfl rfl trivial ?_
    | refine x_fieldAddr rfl rfl rfl rfl trivial ?_
    | refine x_skip trivial rfl rfl rfl ?_
    | refine x_indexAddr1 rfl rfl rfl (by assumption) (by omega) (by omega) rfl trivial ?_
    | refine x_indexAddr rfl rfl rfl (by assumption) (by omega) (by omega) rfl trivial ?_
    | refine x_nil ?_
    | refine cw_seq ?_
    | refine nw_seq ?_
    | refine nw_block ?_
    | refine cw_block ?_
    | refine cw_skip ?_
    | refine cw_region ?_
    | refine cw_exit rfl ?_
    | refine cw_true rfl ?_
    | refine cw_false rfl ?_)
  refine cw_loop (fun s : Nat => [(0, va), (1, .int .i64 wx), (2, .int .i64 ax), (3, .int .u64 w), (9, ptr b 0), (10, .int .i64 s)])
    (fun s H' => s ≤ zs.length ∧ As Non H H' b (A0 zs s)) (fun s => zs.length - s) 0 (by repeat (first | exact True.intro | refine ⟨rfl, ?_⟩)) ⟨Nat.zero_le _, hA1⟩ ?_
  rintro i H2 ⟨hi, hA2⟩
  have hk2 := hA2.keep0
  repeat (first
    | refine x_move rfl rfl rfl trivial ?_
    | refine x_assign rfl rfl rfl trivial ?_
    | refine x_add rfl rfl rfl (wrap_i64 (by omega) (by omega)) rfl trivial ?_
    | refine x_sub_ rfl rfl rfl (wrap_i64 (by omega) (by omega)) rfl trivial ?_
    | refine x_sub_ rfl rfl rfl (wrap_u32 (by omega) (by omega)) rfl trivial ?_
    | refine x_add rfl rfl rfl (wrap_u32 (by omega) (by omega)) rfl trivial ?_
    | refine x_peqn rfl rfl rfl rfl trivial ?_
    | refine x_pnen rfl rfl rfl rfl trivial ?_
    | refine x_mul rfl rfl rfl (wrap_i64 (by omega) (by omega)) rfl trivial ?_
    | refine x_ibin rfl rfl rfl rfl rfl trivial ?_
    | refine x_neg_ rfl rfl (wrap_i64 (by omega) (by omega)) rfl trivial ?_
    | refine x_len rfl rfl (by assumption) rfl trivial ?_
    | refine x_pick_t rfl rfl rfl rfl trivial ?_
    | refine x_pick_f rfl rfl rfl rfl trivial ?_
    | refine x_not rfl rfl rfl trivial ?_
    | refine x_beq rfl rfl rfl rfl trivial ?_
    | refine x_bne rfl rfl rfl rfl trivial ?_
    | refine x_extract rfl rfl rfl rfl trivial ?_
    | refine x_nilCheck rfl rfl rfl trivial ?_
    | refine x_fieldAddr rfl rfl rfl rfl trivial ?_
    | refine x_skip trivial rfl rfl rfl ?_
    | refine x_indexAddr1 rfl rfl rfl (by assumption) (by omega) (by omega) rfl trivial ?_
    | refine x_indexAddr rfl rfl rfl (by assumption) (by omega) (by omega) rfl trivial ?_
    | refine x_nil ?_
    | refine cw_seq ?_
    | refine nw_seq ?_
    | refine nw_block ?_
    | refine cw_block ?_
    | refine cw_skip ?_
    | refine cw_region ?_
    | refine cw_exit rfl ?_
    | refine cw_true rfl ?_
    | refine cw_false rfl ?_)
  refine cw_cond rfl (fun hlt => ?_) (fun hlt => ?_) <;> (try simp at hlt)
  · obtain ⟨t, ht⟩ : ∃ t, zs[i]? = some t := ⟨_, List.getElem?_eq_getElem hlt⟩
    have hsz := sz_at ht
    have bsz := sz_bd zs i
    have hA2' : As (Zn (.slice none 0 0)) H H2 b (A0 zs i) := hA2.step (Keep.refl Non H2) (fun _ h => h.elim) (fun x e => by have := e.2; simp [sc] at this)
    repeat (first
      | refine x_move rfl rfl rfl trivial ?_
      | refine x_assign rfl rfl rfl trivial ?_
      | refine x_add rfl rfl rfl (wrap_i64 (by omega) (by omega)) rfl trivial ?_
      | refine x_sub_ rfl rfl rfl (wrap_i64 (by omega) (by omega)) rfl trivial ?_
      | refine x_sub_ rfl rfl rfl (wrap_u32 (by omega) (by omega)) rfl trivial ?_
      | refine x_add rfl rfl rfl (wrap_u32 (by omega) (by omega)) rfl trivial ?_
      | refine x_peqn rfl rfl rfl rfl trivial ?_
      | refine x_pnen rfl rfl rfl rfl trivial ?_
      | refine x_mul rfl rfl rfl (wrap_i64 (by omega) (by omega)) rfl trivial ?_
      | refine x_ibin rfl rfl rfl rfl rfl trivial ?_
      | refine x_neg_ rfl rfl (wrap_i64 (by omega) (by omega)) rfl trivial ?_
      | refine x_len rfl rfl (by assumption) rfl trivial ?_
      | refine x_pick_t rfl rfl rfl rfl trivial ?_
      | refine x_pick_f rfl rfl rfl rfl trivial ?_
      | refine x_not rfl rfl rfl trivial ?_
      | refine x_beq rfl rfl rfl rfl trivial ?_
      | refine x_bne rfl rfl rfl rfl trivial ?_
      | refine x_extract rfl rfl rfl rfl trivial ?_
      | refine x_nilCheck rfl rfl rfl trivial ?_
      | refine x_fieldAddr rfl rfl rfl rfl trivial ?_
      | refine x_skip trivial rfl rfl rfl ?_
      | refine x_indexAddr1 rfl rfl rfl (by assumption) (by omega) (by omega) rfl trivial ?_
      | refine x_indexAddr rfl rfl rfl (by assumption) (by omega) (by omega) rfl trivial ?_
      | refine x_nil ?_
      | refine cw_seq ?_
      | refine nw_seq ?_
      | refine nw_block ?_
      | refine cw_block ?_
      | refine cw_skip ?_
      | refine cw_region ?_
      | refine cw_exit rfl ?_
      | refine cw_true rfl ?_
      | refine cw_false rfl ?_)
    refine cw_loop (fun s : Nat × Value => [(0, va), (1, .int .i64 wx), (2, .int .i64 ax), (3, .int .u64 w), (9, ptr b 0), (10, .int .i64 i), (11, s.2), (12, .int .i64 s.1)])
      (fun s H' => s.1 ≤ sz zs i ∧ As (Zn s.2) H H' b (A0 zs i) ∧ Rw encW 1 Eq H' s.2 ((List.range s.1).map (wd i))) (fun s => sz zs i - s.1) (0, _) (by repeat (first | exact True.intro | refine ⟨rfl, ?_⟩)) ⟨Nat.zero_le _, hA2', Rw.nil _ _ _ _⟩ ?_
    rintro ⟨k, v⟩ H3 ⟨hk, hA3, hV⟩
    simp only at hk hV
    have hA3 : As (Zn v) H H3 b (A0 zs i) := hA3
    dsimp only
    have hct := hA3.keep0.cel (hA i t ht) (fun h => h)
    repeat (first
      | refine x_move rfl rfl rfl trivial ?_
      | refine x_assign rfl rfl rfl trivial ?_
      | refine x_add rfl rfl rfl (wrap_i64 (by omega) (by omega)) rfl trivial ?_
      | refine x_sub_ rfl rfl rfl (wrap_i64 (by omega) (by omega)) rfl trivial ?_
      | refine x_sub_ rfl rfl rfl (wrap_u32 (by omega) (by omega)) rfl trivial ?_
      | refine x_add rfl rfl rfl (wrap_u32 (by omega) (by omega)) rfl trivial ?_
      | refine x_peqn rfl rfl rfl rfl trivial ?_
      | refine x_pnen rfl rfl rfl rfl trivial ?_
      | refine x_mul rfl rfl rfl (wrap_i64 (by omega) (by omega)) rfl trivial ?_
      | refine x_ibin rfl rfl rfl rfl rfl trivial ?_
      | refine x_neg_ rfl rfl (wrap_i64 (by omega) (by omega)) rfl trivial ?_
      | refine x_len rfl rfl (by assumption) rfl trivial ?_
      | refine x_pick_t rfl rfl rfl rfl trivial ?_
      | refine x_pick_f rfl rfl rfl rfl trivial ?_
      | refine x_not rfl rfl rfl trivial ?_
      | refine x_beq rfl rfl rfl rfl trivial ?_
      | refine x_bne rfl rfl rfl rfl trivial ?_
      | refine x_extract rfl rfl rfl rfl trivial ?_
      | refine x_nilCheck rfl rfl rfl trivial ?_
      | refine x_fieldAddr rfl rfl rfl rfl trivial ?_
      | refine x_skip trivial rfl rfl rfl ?_
      | refine x_indexAddr1 rfl rfl rfl (by assumption) (by omega) (by omega) rfl trivial ?_
      | refine x_indexAddr rfl rfl rfl (by assumption) (by omega) (by omega) rfl trivial ?_
      | refine x_nil ?_
      | refine cw_seq ?_
      | refine nw_seq ?_
      | refine nw_block ?_
      | refine cw_block ?_
      | refine cw_skip ?_
      | refine cw_region ?_
      | refine cw_exit rfl ?_
      | refine cw_true rfl ?_
      | refine cw_false rfl ?_)
    refine x_load rfl rfl (hpmt (hct)) rfl trivial ?_
    refine x_call rfl rfl rfl trivial (law_LowF t 65 (by omega) H3) ?_
    rintro _ _ ⟨rfl, rfl⟩
    refine ⟨trivial, ?_⟩
    rw [hsz]
    repeat (first
      | refine x_move rfl rfl rfl trivial ?_
      | refine x_assign rfl rfl rfl trivial ?_
      | refine x_add rfl rfl rfl (wrap_i64 (by omega) (by omega)) rfl trivial ?_
      | refine x_sub_ rfl rfl rfl (wrap_i64 (by omega) (by omega)) rfl trivial ?_
      | refine x_sub_ rfl rfl rfl (wrap_u32 (by omega) (by omega)) rfl trivial ?_
      | refine x_add rfl rfl rfl (wrap_u32 (by omega) (by omega)) rfl trivial ?_
      | refine x_peqn rfl rfl rfl rfl trivial ?_
      | refine x_pnen rfl rfl rfl rfl trivial ?_
      | refine x_mul rfl rfl rfl (wrap_i64 (by omega) (by omega)) rfl trivial ?_
      | refine x_ibin rfl rfl rfl rfl rfl trivial ?_
      | refine x_neg_ rfl rfl (wrap_i64 (by omega) (by omega)) rfl trivial ?_
      | refine x_len rfl rfl (by assumption) rfl trivial ?_
      | refine x_pick_t rfl rfl rfl rfl trivial ?_
      | refine x_pick_f rfl rfl rfl rfl trivial ?_
      | refine x_not rfl rfl rfl trivial ?_
      | refine x_beq rfl rfl rfl rfl trivial ?_
      | refine x_bne rfl rfl rfl rfl trivial ?_
      | refine x_extract rfl rfl rfl rfl trivial ?_
      | refine x_nilCheck rfl rfl rfl trivial ?_
      | refine x_fieldAddr rfl rfl rfl rfl trivial ?_
      | refine x_skip trivial rfl rfl rfl ?_
      | refine x_indexAddr1 rfl rfl rfl (by assumption) (by omega) (by omega) rfl trivial ?_
      | refine x_indexAddr rfl rfl rfl (by assumption) (by omega) (by omega) rfl trivial ?_
      | refine x_nil ?_
      | refine cw_seq ?_
      | refine nw_seq ?_
      | refine nw_block ?_
      | refine cw_block ?_
      | refine cw_skip ?_
      | refine cw_region ?_
      | refine cw_exit rfl ?_
      | refine cw_true rfl ?_
      | refine cw_false rfl ?_)
    refine cw_cond rfl (fun hlt2 => ?_) (fun hlt2 => ?_) <;> (try simp at hlt2)
    · repeat (first
        | refine x_move rfl rfl rfl trivial ?_
        | refine x_assign rfl rfl rfl trivial ?_
        | refine x_add rfl rfl rfl (wrap_i64 (by omega) (by omega)) rfl trivial ?_
        | refine x_sub_ rfl rfl rfl (wrap_i64 (by omega) (by omega)) rfl trivial ?_
        | refine x_sub_ rfl rfl rfl (wrap_u32 (by omega) (by omega)) rfl trivial ?_
        | refine x_add rfl rfl rfl (wrap_u32 (by omega) (by omega)) rfl trivial ?_
        | refine x_peqn rfl rfl rfl rfl trivial ?_
        | refine x_pnen rfl rfl rfl rfl trivial ?_
        | refine x_mul rfl rfl rfl (wrap_i64 (by omega) (by omega)) rfl trivial ?_
        | refine x_ibin rfl rfl rfl rfl rfl trivial ?_
        | refine x_neg_ rfl rfl (wrap_i64 (by omega) (by omega)) rfl trivial ?_
        | refine x_len rfl rfl (by assumption) rfl trivial ?_
        | refine x_pick_t rfl rfl rfl rfl trivial ?_
        | refine x_pick_f rfl rfl rfl rfl trivial ?_
        | refine x_not rfl rfl rfl trivial ?_
        | refine x_beq rfl rfl rfl rfl trivial ?_
        | refine x_bne rfl rfl rfl rfl trivial ?_
        | refine x_extract rfl rfl rfl rfl trivial ?_
        | refine x_nilCheck rfl rfl rfl trivial ?_
        | refine x_fieldAddr rfl rfl rfl rfl trivial ?_
        | refine x_skip trivial rfl rfl rfl ?_
        | refine x_indexAddr1 rfl rfl rfl (by assumption) (by omega) (by omega) rfl trivial ?_
        | refine x_indexAddr rfl rfl rfl (by assumption) (by omega) (by omega) rfl trivial ?_
        | refine x_nil ?_
        | refine cw_seq ?_
        | refine nw_seq ?_
        | refine nw_block ?_
        | refine cw_block ?_
        | refine cw_skip ?_
        | refine cw_region ?_
        | refine cw_exit rfl ?_
        | refine cw_true rfl ?_
        | refine cw_false rfl ?_)
      refine x_conv_int rfl rfl rfl trivial ?_
      refine x_buildSlice (vs := u64s [wd i k]) rfl rfl rfl rfl (by omega) (u64s_oneC _) rfl trivial ?_
      intro H4 hn4
      refine ⟨trivial, ?_⟩
      obtain ⟨q, hq1, hq2⟩ := (hV.keepN hn4.keep).row
      refine x_append (v := v) (by rfl) (by rfl) (by rfl) rfl rfl rfl hq2 (isSl_some (Nat.le_refl _) (by omega)) (m := 1) (cx := rws encW [wd i k]) rfl (hn4.blk.cels 0 1 (by simp [u64s])) (rws_oneC (fun x hx => by simp at hx; subst hx; exact oc_cons rfl oc_nil)) (by rw [List.length_map, List.length_range]; omega) rfl trivial ?_
      intro v5 H5 hap
      refine ⟨trivial, ?_⟩
      obtain ⟨hA5, hV5⟩ := wapp hA3 hn4.keep hq1 hap
      repeat (first
        | refine x_move rfl rfl rfl trivial ?_
        | refine x_assign rfl rfl rfl trivial ?_
        | refine x_add rfl rfl rfl (wrap_i64 (by omega) (by omega)) rfl trivial ?_
        | refine x_sub_ rfl rfl rfl (wrap_i64 (by omega) (by omega)) rfl trivial ?_
        | refine x_sub_ rfl rfl rfl (wrap_u32 (by omega) (by omega)) rfl trivial ?_
        | refine x_add rfl rfl rfl (wrap_u32 (by omega) (by omega)) rfl trivial ?_
        | refine x_peqn rfl rfl rfl rfl trivial ?_
        | refine x_pnen rfl rfl rfl rfl trivial ?_
        | refine x_mul rfl rfl rfl (wrap_i64 (by omega) (by omega)) rfl trivial ?_
        | refine x_ibin rfl rfl rfl rfl rfl trivial ?_
        | refine x_neg_ rfl rfl (wrap_i64 (by omega) (by omega)) rfl trivial ?_
        | refine x_len rfl rfl (by assumption) rfl trivial ?_
        | refine x_pick_t rfl rfl rfl rfl trivial ?_
        | refine x_pick_f rfl rfl rfl rfl trivial ?_
        | refine x_not rfl rfl rfl trivial ?_
        | refine x_beq rfl rfl rfl rfl trivial ?_
        | refine x_bne rfl rfl rfl rfl trivial ?_
        | refine x_extract rfl rfl rfl rfl trivial ?_
        | refine x_nilCheck rfl rfl rfl trivial ?_
        | refine x_fieldAddr rfl rfl rfl rfl trivial ?_
        | refine x_skip trivial rfl rfl rfl ?_
        | refine x_indexAddr1 rfl rfl rfl (by assumption) (by omega) (by omega) rfl trivial ?_
        | refine x_indexAddr rfl rfl rfl (by assumption) (by omega) (by omega) rfl trivial ?_
        | refine x_nil ?_
        | refine cw_seq ?_
        | refine nw_seq ?_
        | refine nw_block ?_
        | refine cw_block ?_
        | refine cw_skip ?_
        | refine cw_region ?_
        | refine cw_exit rfl ?_
        | refine cw_true rfl ?_
        | refine cw_false rfl ?_)
      refine nw_round (k + 1, v5) (by repeat (first | exact True.intro | refine ⟨rfl, ?_⟩)) ⟨by show k + 1 ≤ _; omega, hA5, ?_⟩ (by show sz zs i - (k + 1) < sz zs i - k; omega)
      show Rw encW 1 Eq H5 v5 ((List.range (k + 1)).map (wd i))
      rw [List.range_succ, List.map_append]
      exact hV5
    · have hke : k = sz zs i := by omega
      subst hke
      have hW := ws_of hV
      have sV := hV.sl
      rw [List.length_map, List.length_range] at sV
      have cV := sV.cap
      repeat (first
        | refine x_move rfl rfl rfl trivial ?_
        | refine x_assign rfl rfl rfl trivial ?_
        | refine x_add rfl rfl rfl (wrap_i64 (by omega) (by omega)) rfl trivial ?_
        | refine x_sub_ rfl rfl rfl (wrap_i64 (by omega) (by omega)) rfl trivial ?_
        | refine x_sub_ rfl rfl rfl (wrap_u32 (by omega) (by omega)) rfl trivial ?_
        | refine x_add rfl rfl rfl (wrap_u32 (by omega) (by omega)) rfl trivial ?_
        | refine x_peqn rfl rfl rfl rfl trivial ?_
        | refine x_pnen rfl rfl rfl rfl trivial ?_
        | refine x_mul rfl rfl rfl (wrap_i64 (by omega) (by omega)) rfl trivial ?_
        | refine x_ibin rfl rfl rfl rfl rfl trivial ?_
        | refine x_neg_ rfl rfl (wrap_i64 (by omega) (by omega)) rfl trivial ?_
        | refine x_len rfl rfl (by assumption) rfl trivial ?_
        | refine x_pick_t rfl rfl rfl rfl trivial ?_
        | refine x_pick_f rfl rfl rfl rfl trivial ?_
        | refine x_not rfl rfl rfl trivial ?_
        | refine x_beq rfl rfl rfl rfl trivial ?_
        | refine x_bne rfl rfl rfl rfl trivial ?_
        | refine x_extract rfl rfl rfl rfl trivial ?_
        | refine x_nilCheck rfl rfl rfl trivial ?_
        | refine x_fieldAddr rfl rfl rfl rfl trivial ?_
        | refine x_skip trivial rfl rfl rfl ?_
        | refine x_indexAddr1 rfl rfl rfl (by assumption) (by omega) (by omega) rfl trivial ?_
        | refine x_indexAddr rfl rfl rfl (by assumption) (by omega) (by omega) rfl trivial ?_
        | refine x_nil ?_
        | refine cw_seq ?_
        | refine nw_seq ?_
        | refine nw_block ?_
        | refine cw_block ?_
        | refine cw_skip ?_
        | refine cw_region ?_
        | refine cw_exit rfl ?_
        | refine cw_true rfl ?_
        | refine cw_false rfl ?_)
      refine x_call rfl rfl rfl trivial (as_Take (a := A0 zs i) (ws := (List.range (sz zs i)).map (wd i)) hA3 (A0_wf zs (by omega)) hW (by rw [List.length_map, List.length_range]; omega) (by rw [A0_len]; omega) (by simp)) ?_
      rintro _ H4 ⟨rfl, hA4, hk4⟩
      refine ⟨trivial, ?_⟩
      rw [A0_take zs (by omega)] at hA4 ⊢
      simp only at hA4
      have hA4n : As Non H H4 b (A0 zs (i + 1)) := hA4.step (Keep.refl Non H4) (fun _ h => h.elim) (fun _ h => h.elim)
      repeat (first
        | refine x_move rfl rfl rfl trivial ?_
        | refine x_assign rfl rfl rfl trivial ?_
        | refine x_add rfl rfl rfl (wrap_i64 (by omega) (by omega)) rfl trivial ?_
        | refine x_sub_ rfl rfl rfl (wrap_i64 (by omega) (by omega)) rfl trivial ?_
        | refine x_sub_ rfl rfl rfl (wrap_u32 (by omega) (by omega)) rfl trivial ?_
        | refine x_add rfl rfl rfl (wrap_u32 (by omega) (by omega)) rfl trivial ?_
        | refine x_peqn rfl rfl rfl rfl trivial ?_
        | refine x_pnen rfl rfl rfl rfl trivial ?_
        | refine x_mul rfl rfl rfl (wrap_i64 (by omega) (by omega)) rfl trivial ?_
        | refine x_ibin rfl rfl rfl rfl rfl trivial ?_
        | refine x_neg_ rfl rfl (wrap_i64 (by omega) (by omega)) rfl trivial ?_
        | refine x_len rfl rfl (by assumption) rfl trivial ?_
        | refine x_pick_t rfl rfl rfl rfl trivial ?_
        | refine x_pick_f rfl rfl rfl rfl trivial ?_
        | refine x_not rfl rfl rfl trivial ?_
        | refine x_beq rfl rfl rfl rfl trivial ?_
        | refine x_bne rfl rfl rfl rfl trivial ?_
        | refine x_extract rfl rfl rfl rfl trivial ?_
        | refine x_nilCheck rfl rfl rfl trivial ?_
        | refine x_fieldAddr rfl rfl rfl rfl trivial ?_
        | refine x_skip trivial rfl rfl rfl ?_
        | refine x_indexAddr1 rfl rfl rfl (by assumption) (by omega) (by omega) rfl trivial ?_
        | refine x_indexAddr rfl rfl rfl (by assumption) (by omega) (by omega) rfl trivial ?_
        | refine x_nil ?_
        | refine cw_seq ?_
        | refine nw_seq ?_
        | refine nw_block ?_
        | refine cw_block ?_
        | refine cw_skip ?_
        | refine cw_region ?_
        | refine cw_exit rfl ?_
        | refine cw_true rfl ?_
        | refine cw_false rfl ?_)
      refine x_conv_int rfl rfl rfl trivial ?_
      rw [wrap_i64 (by omega) (by omega)]
      repeat (first
        | refine x_move rfl rfl rfl trivial ?_
        | refine x_assign rfl rfl rfl trivial ?_
        | refine x_add rfl rfl rfl (wrap_i64 (by omega) (by omega)) rfl trivial ?_
        | refine x_sub_ rfl rfl rfl (wrap_i64 (by omega) (by omega)) rfl trivial ?_
        | refine x_sub_ rfl rfl rfl (wrap_u32 (by omega) (by omega)) rfl trivial ?_
        | refine x_add rfl rfl rfl (wrap_u32 (by omega) (by omega)) rfl trivial ?_
        | refine x_peqn rfl rfl rfl rfl trivial ?_
        | refine x_pnen rfl rfl rfl rfl trivial ?_
        | refine x_mul rfl rfl rfl (wrap_i64 (by omega) (by omega)) rfl trivial ?_
        | refine x_ibin rfl rfl rfl rfl rfl trivial ?_
        | refine x_neg_ rfl rfl (wrap_i64 (by omega) (by omega)) rfl trivial ?_
        | refine x_len rfl rfl (by assumption) rfl trivial ?_
        | refine x_pick_t rfl rfl rfl rfl trivial ?_
        | refine x_pick_f rfl rfl rfl rfl trivial ?_
        | refine x_not rfl rfl rfl trivial ?_
        | refine x_beq rfl rfl rfl rfl trivial ?_
        | refine x_bne rfl rfl rfl rfl trivial ?_
        | refine x_extract rfl rfl rfl rfl trivial ?_
        | refine x_nilCheck rfl rfl rfl trivial ?_
        | refine x_fieldAddr rfl rfl rfl rfl trivial ?_
        | refine x_skip trivial rfl rfl rfl ?_
        | refine x_indexAddr1 rfl rfl rfl (by assumption) (by omega) (by omega) rfl trivial ?_
        | refine x_indexAddr rfl rfl rfl (by assumption) (by omega) (by omega) rfl trivial ?_
        | refine x_nil ?_
        | refine cw_seq ?_
        | refine nw_seq ?_
        | refine nw_block ?_
        | refine cw_block ?_
        | refine cw_skip ?_
        | refine cw_region ?_
        | refine cw_exit rfl ?_
        | refine cw_true rfl ?_
        | refine cw_false rfl ?_)
      refine x_false 72 rfl (by simp) ?_
      repeat (first
        | refine x_move rfl rfl rfl trivial ?_
        | refine x_assign rfl rfl rfl trivial ?_
        | refine x_add rfl rfl rfl (wrap_i64 (by omega) (by omega)) rfl trivial ?_
        | refine x_sub_ rfl rfl rfl (wrap_i64 (by omega) (by omega)) rfl trivial ?_
        | refine x_sub_ rfl rfl rfl (wrap_u32 (by omega) (by omega)) rfl trivial ?_
        | refine x_add rfl rfl rfl (wrap_u32 (by omega) (by omega)) rfl trivial ?_
        | refine x_peqn rfl rfl rfl rfl trivial ?_
        | refine x_pnen rfl rfl rfl rfl trivial ?_
        | refine x_mul rfl rfl rfl (wrap_i64 (by omega) (by omega)) rfl trivial ?_
        | refine x_ibin rfl rfl rfl rfl rfl trivial ?_
        | refine x_neg_ rfl rfl (wrap_i64 (by omega) (by omega)) rfl trivial ?_
        | refine x_len rfl rfl (by assumption) rfl trivial ?_
        | refine x_pick_t rfl rfl rfl rfl trivial ?_
        | refine x_pick_f rfl rfl rfl rfl trivial ?_
        | refine x_not rfl rfl rfl trivial ?_
        | refine x_beq rfl rfl rfl rfl trivial ?_
        | refine x_bne rfl rfl rfl rfl trivial ?_
        | refine x_extract rfl rfl rfl rfl trivial ?_
        | refine x_nilCheck rfl rfl rfl trivial ?_
        | refine x_fieldAddr rfl rfl rfl rfl trivial ?_
        | refine x_skip trivial rfl rfl rfl ?_
        | refine x_indexAddr1 rfl rfl rfl (by assumption) (by omega) (by omega) rfl trivial ?_
        | refine x_indexAddr rfl rfl rfl (by assumption) (by omega) (by omega) rfl trivial ?_
        | refine x_nil ?_
        | refine cw_seq ?_
        | refine nw_seq ?_
        | refine nw_block ?_
        | refine cw_block ?_
        | refine cw_skip ?_
        | refine cw_region ?_
        | refine cw_exit rfl ?_
        | refine cw_true rfl ?_
        | refine cw_false rfl ?_)
      refine x_call rfl rfl rfl trivial (as_Size (h := i + 1) hA4n (by omega) (by rw [A0_len]; omega)) ?_
      rintro _ _ ⟨rfl, rfl⟩
      refine ⟨trivial, ?_⟩
      rw [A0_size]
      repeat (first
        | refine x_move rfl rfl rfl trivial ?_
        | refine x_assign rfl rfl rfl trivial ?_
        | refine x_add rfl rfl rfl (wrap_i64 (by omega) (by omega)) rfl trivial ?_
        | refine x_sub_ rfl rfl rfl (wrap_i64 (by omega) (by omega)) rfl trivial ?_
        | refine x_sub_ rfl rfl rfl (wrap_u32 (by omega) (by omega)) rfl trivial ?_
        | refine x_add rfl rfl rfl (wrap_u32 (by omega) (by omega)) rfl trivial ?_
        | refine x_peqn rfl rfl rfl rfl trivial ?_
        | refine x_pnen rfl rfl rfl rfl trivial ?_
        | refine x_mul rfl rfl rfl (wrap_i64 (by omega) (by omega)) rfl trivial ?_
        | refine x_ibin rfl rfl rfl rfl rfl trivial ?_
        | refine x_neg_ rfl rfl (wrap_i64 (by omega) (by omega)) rfl trivial ?_
        | refine x_len rfl rfl (by assumption) rfl trivial ?_
        | refine x_pick_t rfl rfl rfl rfl trivial ?_
        | refine x_pick_f rfl rfl rfl rfl trivial ?_
        | refine x_not rfl rfl rfl trivial ?_
        | refine x_beq rfl rfl rfl rfl trivial ?_
        | refine x_bne rfl rfl rfl rfl trivial ?_
        | refine x_extract rfl rfl rfl rfl trivial ?_
        | refine x_nilCheck rfl rfl rfl trivial ?_
        | refine x_fieldAddr rfl rfl rfl rfl trivial ?_
        | refine x_skip trivial rfl rfl rfl ?_
        | refine x_indexAddr1 rfl rfl rfl (by assumption) (by omega) (by omega) rfl trivial ?_
        | refine x_indexAddr rfl rfl rfl (by assumption) (by omega) (by omega) rfl trivial ?_
        | refine x_nil ?_
        | refine cw_seq ?_
        | refine nw_seq ?_
        | refine nw_block ?_
        | refine cw_block ?_
        | refine cw_skip ?_
        | refine cw_region ?_
        | refine cw_exit rfl ?_
        | refine cw_true rfl ?_
        | refine cw_false rfl ?_)
      refine cw_cond rfl (fun h => absurd h (by simp)) (fun _ => ?_)
      repeat (first
        | refine x_move rfl rfl rfl trivial ?_
        | refine x_assign rfl rfl rfl trivial ?_
        | refine x_add rfl rfl rfl (wrap_i64 (by omega) (by omega)) rfl trivial ?_
        | refine x_sub_ rfl rfl rfl (wrap_i64 (by omega) (by omega)) rfl trivial ?_
        | refine x_sub_ rfl rfl rfl (wrap_u32 (by omega) (by omega)) rfl trivial ?_
        | refine x_add rfl rfl rfl (wrap_u32 (by omega) (by omega)) rfl trivial ?_
        | refine x_peqn rfl rfl rfl rfl trivial ?_
        | refine x_pnen rfl rfl rfl rfl trivial ?_
        | refine x_mul rfl rfl rfl (wrap_i64 (by omega) (by omega)) rfl trivial ?_
        | refine x_ibin rfl rfl rfl rfl rfl trivial ?_
        | refine x_neg_ rfl rfl (wrap_i64 (by omega) (by omega)) rfl trivial ?_
        | refine x_len rfl rfl (by assumption) rfl trivial ?_
        | refine x_pick_t rfl rfl rfl rfl trivial ?_
        | refine x_pick_f rfl rfl rfl rfl trivial ?_
        | refine x_not rfl rfl rfl trivial ?_
        | refine x_beq rfl rfl rfl rfl trivial ?_
        | refine x_bne rfl rfl rfl rfl trivial ?_
        | refine x_extract rfl rfl rfl rfl trivial ?_
        | refine x_nilCheck rfl rfl rfl trivial ?_
        | refine x_fieldAddr rfl rfl rfl rfl trivial ?_
        | refine x_skip trivial rfl rfl rfl ?_
        | refine x_indexAddr1 rfl rfl rfl (by assumption) (by omega) (by omega) rfl trivial ?_
        | refine x_indexAddr rfl rfl rfl (by assumption) (by omega) (by omega) rfl trivial ?_
        | refine x_nil ?_
        | refine cw_seq ?_
        | refine nw_seq ?_
        | refine nw_block ?_
        | refine cw_block ?_
        | refine cw_skip ?_
        | refine cw_region ?_
        | refine cw_exit rfl ?_
        | refine cw_true rfl ?_
        | refine cw_false rfl ?_)
      exact nw_round (i + 1) (by repeat (first | exact True.intro | refine ⟨rfl, ?_⟩)) ⟨by show i + 1 ≤ _; omega, hA4n⟩ (by show zs.length - (i + 1) < zs.length - i; omega)
  · have hie : i = zs.length := by omega
    subst hie
    have bW := low_bd wx (m := zs.length) (by omega)
    obtain ⟨W, hWe⟩ : ∃ W : Nat, low wx zs.length = (W : Int) := ⟨(low wx zs.length).toNat, by omega⟩
    rw [hWe] at bW
    obtain ⟨t, ht⟩ : ∃ t, zs[W]? = some t := ⟨_, List.getElem?_eq_getElem (by omega)⟩
    have hct := hk2.cel (hA W t ht) (fun h => h)
    have hsz := sz_at ht
    have bsz := sz_bd zs W
    have bA := low_bd ax (m := (sz zs W : Int) + 1) (by omega)
    obtain ⟨A, hAe⟩ : ∃ A : Nat, low ax ((sz zs W : Int) + 1) = (A : Int) := ⟨(low ax ((sz zs W : Int) + 1)).toNat, by omega⟩
    rw [hAe] at bA
    obtain ⟨he, hp⟩ := A0_set zs (L := zs.length) (W := W) (A := A) w (by omega) (by omega) (by omega)
    repeat (first
      | refine x_move rfl rfl rfl trivial ?_
      | refine x_assign rfl rfl rfl trivial ?_
      | refine x_add rfl rfl rfl (wrap_i64 (by omega) (by omega)) rfl trivial ?_
      | refine x_sub_ rfl rfl rfl (wrap_i64 (by omega) (by omega)) rfl trivial ?_
      | refine x_sub_ rfl rfl rfl (wrap_u32 (by omega) (by omega)) rfl trivial ?_
      | refine x_add rfl rfl rfl (wrap_u32 (by omega) (by omega)) rfl trivial ?_
      | refine x_peqn rfl rfl rfl rfl trivial ?_
      | refine x_pnen rfl rfl rfl rfl trivial ?_
      | refine x_mul rfl rfl rfl (wrap_i64 (by omega) (by omega)) rfl trivial ?_
      | refine x_ibin rfl rfl rfl rfl rfl trivial ?_
      | refine x_neg_ rfl rfl (wrap_i64 (by omega) (by omega)) rfl trivial ?_
      | refine x_len rfl rfl (by assumption) rfl trivial ?_
      | refine x_pick_t rfl rfl rfl rfl trivial ?_
      | refine x_pick_f rfl rfl rfl rfl trivial ?_
      | refine x_not rfl rfl rfl trivial ?_
      | refine x_beq rfl rfl rfl rfl trivial ?_
      | refine x_bne rfl rfl rfl rfl trivial ?_
      | refine x_extract rfl rfl rfl rfl trivial ?_
      | refine x_nilCheck rfl rfl rfl trivial ?_
      | refine x_fieldAddr rfl rfl rfl rfl trivial ?_
      | refine x_skip trivial rfl rfl rfl ?_
      | refine x_indexAddr1 rfl rfl rfl (by assumption) (by omega) (by omega) rfl trivial ?_
      | refine x_indexAddr rfl rfl rfl (by assumption) (by omega) (by omega) rfl trivial ?_
      | refine x_nil ?_
      | refine cw_seq ?_
      | refine nw_seq ?_
      | refine nw_block ?_
      | refine cw_block ?_
      | refine cw_skip ?_
      | refine cw_region ?_
      | refine cw_exit rfl ?_
      | refine cw_true rfl ?_
      | refine cw_false rfl ?_)
    refine x_call rfl rfl rfl trivial (law_LowF wx zs.length (by omega) H2) ?_
    rintro _ _ ⟨rfl, rfl⟩
    refine ⟨trivial, ?_⟩
    rw [hWe]
    repeat (first
      | refine x_move rfl rfl rfl trivial ?_
      | refine x_assign rfl rfl rfl trivial ?_
      | refine x_add rfl rfl rfl (wrap_i64 (by omega) (by omega)) rfl trivial ?_
      | refine x_sub_ rfl rfl rfl (wrap_i64 (by omega) (by omega)) rfl trivial ?_
      | refine x_sub_ rfl rfl rfl (wrap_u32 (by omega) (by omega)) rfl trivial ?_
      | refine x_add rfl rfl rfl (wrap_u32 (by omega) (by omega)) rfl trivial ?_
      | refine x_peqn rfl rfl rfl rfl trivial ?_
      | refine x_pnen rfl rfl rfl rfl trivial ?_
      | refine x_mul rfl rfl rfl (wrap_i64 (by omega) (by omega)) rfl trivial ?_
      | refine x_ibin rfl rfl rfl rfl rfl trivial ?_
      | refine x_neg_ rfl rfl (wrap_i64 (by omega) (by omega)) rfl trivial ?_
      | refine x_len rfl rfl (by assumption) rfl trivial ?_
      | refine x_pick_t rfl rfl rfl rfl trivial ?_
      | refine x_pick_f rfl rfl rfl rfl trivial ?_
      | refine x_not rfl rfl rfl trivial ?_
      | refine x_beq rfl rfl rfl rfl trivial ?_
      | refine x_bne rfl rfl rfl rfl trivial ?_
      | refine x_extract rfl rfl rfl rfl trivial ?_
      | refine x_nilCheck rfl rfl rfl trivial ?_
      | refine x_fieldAddr rfl rfl rfl rfl trivial ?_
      | refine x_skip trivial rfl rfl rfl ?_
      | refine x_indexAddr1 rfl rfl rfl (by assumption) (by omega) (by omega) rfl trivial ?_
      | refine x_indexAddr rfl rfl rfl (by assumption) (by omega) (by omega) rfl trivial ?_
      | refine x_nil ?_
      | refine cw_seq ?_
      | refine nw_seq ?_
      | refine nw_block ?_
      | refine cw_block ?_
      | refine cw_skip ?_
      | refine cw_region ?_
      | refine cw_exit rfl ?_
      | refine cw_true rfl ?_
      | refine cw_false rfl ?_)
    refine x_load rfl rfl (hpmt (hct)) rfl trivial ?_
    refine x_call rfl rfl rfl trivial (law_LowF t 65 (by omega) H2) ?_
    rintro _ _ ⟨rfl, rfl⟩
    refine ⟨trivial, ?_⟩
    rw [hsz]
    repeat (first
      | refine x_move rfl rfl rfl trivial ?_
      | refine x_assign rfl rfl rfl trivial ?_
      | refine x_add rfl rfl rfl (wrap_i64 (by omega) (by omega)) rfl trivial ?_
      | refine x_sub_ rfl rfl rfl (wrap_i64 (by omega) (by omega)) rfl trivial ?_
      | refine x_sub_ rfl rfl rfl (wrap_u32 (by omega) (by omega)) rfl trivial ?_
      | refine x_add rfl rfl rfl (wrap_u32 (by omega) (by omega)) rfl trivial ?_
      | refine x_peqn rfl rfl rfl rfl trivial ?_
      | refine x_pnen rfl rfl rfl rfl trivial ?_
      | refine x_mul rfl rfl rfl (wrap_i64 (by omega) (by omega)) rfl trivial ?_
      | refine x_ibin rfl rfl rfl rfl rfl trivial ?_
      | refine x_neg_ rfl rfl (wrap_i64 (by omega) (by omega)) rfl trivial ?_
      | refine x_len rfl rfl (by assumption) rfl trivial ?_
      | refine x_pick_t rfl rfl rfl rfl trivial ?_
      | refine x_pick_f rfl rfl rfl rfl trivial ?_
      | refine x_not rfl rfl rfl trivial ?_
      | refine x_beq rfl rfl rfl rfl trivial ?_
      | refine x_bne rfl rfl rfl rfl trivial ?_
      | refine x_extract rfl rfl rfl rfl trivial ?_
      | refine x_nilCheck rfl rfl rfl trivial ?_
      | refine x_fieldAddr rfl rfl rfl rfl trivial ?_
      | refine x_skip trivial rfl rfl rfl ?_
      | refine x_indexAddr1 rfl rfl rfl (by assumption) (by omega) (by omega) rfl trivial ?_
      | refine x_indexAddr rfl rfl rfl (by assumption) (by omega) (by omega) rfl trivial ?_
      | refine x_nil ?_
      | refine cw_seq ?_
      | refine nw_seq ?_
      | refine nw_block ?_
      | refine cw_block ?_
      | refine cw_skip ?_
      | refine cw_region ?_
      | refine cw_exit rfl ?_
      | refine cw_true rfl ?_
      | refine cw_false rfl ?_)
    refine x_call rfl rfl rfl trivial (law_LowF ax ((sz zs W : Int) + 1) (by omega) H2) ?_
    rintro _ _ ⟨rfl, rfl⟩
    refine ⟨trivial, ?_⟩
    rw [hAe]
    repeat (first
      | refine x_move rfl rfl rfl trivial ?_
      | refine x_assign rfl rfl rfl trivial ?_
      | refine x_add rfl rfl rfl (wrap_i64 (by omega) (by omega)) rfl trivial ?_
      | refine x_sub_ rfl rfl rfl (wrap_i64 (by omega) (by omega)) rfl trivial ?_
      | refine x_sub_ rfl rfl rfl (wrap_u32 (by omega) (by omega)) rfl trivial ?_
      | refine x_add rfl rfl rfl (wrap_u32 (by omega) (by omega)) rfl trivial ?_
      | refine x_peqn rfl rfl rfl rfl trivial ?_
      | refine x_pnen rfl rfl rfl rfl trivial ?_
      | refine x_mul rfl rfl rfl (wrap_i64 (by omega) (by omega)) rfl trivial ?_
      | refine x_ibin rfl rfl rfl rfl rfl trivial ?_
      | refine x_neg_ rfl rfl (wrap_i64 (by omega) (by omega)) rfl trivial ?_
      | refine x_len rfl rfl (by assumption) rfl trivial ?_
      | refine x_pick_t rfl rfl rfl rfl trivial ?_
      | refine x_pick_f rfl rfl rfl rfl trivial ?_
      | refine x_not rfl rfl rfl trivial ?_
      | refine x_beq rfl rfl rfl rfl trivial ?_
      | refine x_bne rfl rfl rfl rfl trivial ?_
      | refine x_extract rfl rfl rfl rfl trivial ?_
      | refine x_nilCheck rfl rfl rfl trivial ?_
      | refine x_fieldAddr rfl rfl rfl rfl trivial ?_
      | refine x_skip trivial rfl rfl rfl ?_
      | refine x_indexAddr1 rfl rfl rfl (by assumption) (by omega) (by omega) rfl trivial ?_
      | refine x_indexAddr rfl rfl rfl (by assumption) (by omega) (by omega) rfl trivial ?_
      | refine x_nil ?_
      | refine cw_seq ?_
      | refine nw_seq ?_
      | refine nw_block ?_
      | refine cw_block ?_
      | refine cw_skip ?_
      | refine cw_region ?_
      | refine cw_exit rfl ?_
      | refine cw_true rfl ?_
      | refine cw_false rfl ?_)
    refine x_conv_int rfl rfl rfl trivial ?_
    rw [wrap_u32 (by omega) (by omega), show (W : Int) + 1 = ((W + 1 : Nat) : Int) by omega]
    repeat (first
      | refine x_move rfl rfl rfl trivial ?_
      | refine x_assign rfl rfl rfl trivial ?_
      | refine x_add rfl rfl rfl (wrap_i64 (by omega) (by omega)) rfl trivial ?_
      | refine x_sub_ rfl rfl rfl (wrap_i64 (by omega) (by omega)) rfl trivial ?_
      | refine x_sub_ rfl rfl rfl (wrap_u32 (by omega) (by omega)) rfl trivial ?_
      | refine x_add rfl rfl rfl (wrap_u32 (by omega) (by omega)) rfl trivial ?_
      | refine x_peqn rfl rfl rfl rfl trivial ?_
      | refine x_pnen rfl rfl rfl rfl trivial ?_
      | refine x_mul rfl rfl rfl (wrap_i64 (by omega) (by omega)) rfl trivial ?_
      | refine x_ibin rfl rfl rfl rfl rfl trivial ?_
      | refine x_neg_ rfl rfl (wrap_i64 (by omega) (by omega)) rfl trivial ?_
      | refine x_len rfl rfl (by assumption) rfl trivial ?_
      | refine x_pick_t rfl rfl rfl rfl trivial ?_
      | refine x_pick_f rfl rfl rfl rfl trivial ?_
      | refine x_not rfl rfl rfl trivial ?_
      | refine x_beq rfl rfl rfl rfl trivial ?_
      | refine x_bne rfl rfl rfl rfl trivial ?_
      | refine x_extract rfl rfl rfl rfl trivial ?_
      | refine x_nilCheck rfl rfl rfl trivial ?_
      | refine x_fieldAddr rfl rfl rfl rfl trivial ?_
      | refine x_skip trivial rfl rfl rfl ?_
      | refine x_indexAddr1 rfl rfl rfl (by assumption) (by omega) (by omega) rfl trivial ?_
      | refine x_indexAddr rfl rfl rfl (by assumption) (by omega) (by omega) rfl trivial ?_
      | refine x_nil ?_
      | refine cw_seq ?_
      | refine nw_seq ?_
      | refine nw_block ?_
      | refine cw_block ?_
      | refine cw_skip ?_
      | refine cw_region ?_
      | refine cw_exit rfl ?_
      | refine cw_true rfl ?_
      | refine cw_false rfl ?_)
    refine x_call rfl rfl rfl trivial (as_Set (a := A0 zs zs.length) (h := W + 1) (i := A) (x := w) hA2 (by omega) (by rw [A0_len]; omega)) ?_
    rintro _ H5 ⟨rfl, hA5, hk5⟩
    refine ⟨trivial, ?_⟩
    rw [he]
    generalize setA (A0 zs zs.length) (W + 1) A w = a at hA5 hp
    have plen := hp.len
    have pbk := hp.back
    by_cases hAm : A < sz zs W
    · rw [if_pos hAm]
      repeat (first
        | refine x_move rfl rfl rfl trivial ?_
        | refine x_assign rfl rfl rfl trivial ?_
        | refine x_add rfl rfl rfl (wrap_i64 (by omega) (by omega)) rfl trivial ?_
        | refine x_sub_ rfl rfl rfl (wrap_i64 (by omega) (by omega)) rfl trivial ?_
        | refine x_sub_ rfl rfl rfl (wrap_u32 (by omega) (by omega)) rfl trivial ?_
        | refine x_add rfl rfl rfl (wrap_u32 (by omega) (by omega)) rfl trivial ?_
        | refine x_peqn rfl rfl rfl rfl trivial ?_
        | refine x_pnen rfl rfl rfl rfl trivial ?_
        | refine x_mul rfl rfl rfl (wrap_i64 (by omega) (by omega)) rfl trivial ?_
        | refine x_ibin rfl rfl rfl rfl rfl trivial ?_
        | refine x_neg_ rfl rfl (wrap_i64 (by omega) (by omega)) rfl trivial ?_
        | refine x_len rfl rfl (by assumption) rfl trivial ?_
        | refine x_pick_t rfl rfl rfl rfl trivial ?_
        | refine x_pick_f rfl rfl rfl rfl trivial ?_
        | refine x_not rfl rfl rfl trivial ?_
        | refine x_beq rfl rfl rfl rfl trivial ?_
        | refine x_bne rfl rfl rfl rfl trivial ?_
        | refine x_extract rfl rfl rfl rfl trivial ?_
        | refine x_nilCheck rfl rfl rfl trivial ?_
        | refine x_fieldAddr rfl rfl rfl rfl trivial ?_
        | refine x_skip trivial rfl rfl rfl ?_
        | refine x_indexAddr1 rfl rfl rfl (by assumption) (by omega) (by omega) rfl trivial ?_
        | refine x_indexAddr rfl rfl rfl (by assumption) (by omega) (by omega) rfl trivial ?_
        | refine x_nil ?_
        | refine cw_seq ?_
        | refine nw_seq ?_
        | refine nw_block ?_
        | refine cw_block ?_
        | refine cw_skip ?_
        | refine cw_region ?_
        | refine cw_exit rfl ?_
        | refine cw_true rfl ?_
        | refine cw_false rfl ?_)
      refine x_false 106 rfl (by simp; omega) ?_
      repeat (first
        | refine x_move rfl rfl rfl trivial ?_
        | refine x_assign rfl rfl rfl trivial ?_
        | refine x_add rfl rfl rfl (wrap_i64 (by omega) (by omega)) rfl trivial ?_
        | refine x_sub_ rfl rfl rfl (wrap_i64 (by omega) (by omega)) rfl trivial ?_
        | refine x_sub_ rfl rfl rfl (wrap_u32 (by omega) (by omega)) rfl trivial ?_
        | refine x_add rfl rfl rfl (wrap_u32 (by omega) (by omega)) rfl trivial ?_
        | refine x_peqn rfl rfl rfl rfl trivial ?_
        | refine x_pnen rfl rfl rfl rfl trivial ?_
        | refine x_mul rfl rfl rfl (wrap_i64 (by omega) (by omega)) rfl trivial ?_
        | refine x_ibin rfl rfl rfl rfl rfl trivial ?_
        | refine x_neg_ rfl rfl (wrap_i64 (by omega) (by omega)) rfl trivial ?_
        | refine x_len rfl rfl (by assumption) rfl trivial ?_
        | refine x_pick_t rfl rfl rfl rfl trivial ?_
        | refine x_pick_f rfl rfl rfl rfl trivial ?_
        | refine x_not rfl rfl rfl trivial ?_
        | refine x_beq rfl rfl rfl rfl trivial ?_
        | refine x_bne rfl rfl rfl rfl trivial ?_
        | refine x_extract rfl rfl rfl rfl trivial ?_
        | refine x_nilCheck rfl rfl rfl trivial ?_
        | refine x_fieldAddr rfl rfl rfl rfl trivial ?_
        | refine x_skip trivial rfl rfl rfl ?_
        | refine x_indexAddr1 rfl rfl rfl (by assumption) (by omega) (by omega) rfl trivial ?_
        | refine x_indexAddr rfl rfl rfl (by assumption) (by omega) (by omega) rfl trivial ?_
        | refine x_nil ?_
        | refine cw_seq ?_
        | refine nw_seq ?_
        | refine nw_block ?_
        | refine cw_block ?_
        | refine cw_skip ?_
        | refine cw_region ?_
        | refine cw_exit rfl ?_
        | refine cw_true rfl ?_
        | refine cw_false rfl ?_)
      refine cw_loop (fun s : Nat => [(0, va), (1, .int .i64 W), (2, .int .i64 A), (3, .int .u64 w), (9, ptr b 0), (17, .int .i64 s)]) (fun s H' => H5 = H' ∧ s ≤ zs.length) (fun s => zs.length - s) 0 (by repeat (first | exact True.intro | refine ⟨rfl, ?_⟩)) ⟨rfl, Nat.zero_le _⟩ ?_
      rintro j _ ⟨rfl, hj⟩
      repeat (first
        | refine x_move rfl rfl rfl trivial ?_
        | refine x_assign rfl rfl rfl trivial ?_
        | refine x_add rfl rfl rfl (wrap_i64 (by omega) (by omega)) rfl trivial ?_
        | refine x_sub_ rfl rfl rfl (wrap_i64 (by omega) (by omega)) rfl trivial ?_
        | refine x_sub_ rfl rfl rfl (wrap_u32 (by omega) (by omega)) rfl trivial ?_
        | refine x_add rfl rfl rfl (wrap_u32 (by omega) (by omega)) rfl trivial ?_
        | refine x_peqn rfl rfl rfl rfl trivial ?_
        | refine x_pnen rfl rfl rfl rfl trivial ?_
        | refine x_mul rfl rfl rfl (wrap_i64 (by omega) (by omega)) rfl trivial ?_
        | refine x_ibin rfl rfl rfl rfl rfl trivial ?_
        | refine x_neg_ rfl rfl (wrap_i64 (by omega) (by omega)) rfl trivial ?_
        | refine x_len rfl rfl (by assumption) rfl trivial ?_
        | refine x_pick_t rfl rfl rfl rfl trivial ?_
        | refine x_pick_f rfl rfl rfl rfl trivial ?_
        | refine x_not rfl rfl rfl trivial ?_
        | refine x_beq rfl rfl rfl rfl trivial ?_
        | refine x_bne rfl rfl rfl rfl trivial ?_
        | refine x_extract rfl rfl rfl rfl trivial ?_
        | refine x_nilCheck rfl rfl rfl trivial ?_
        | refine x_fieldAddr rfl rfl rfl rfl trivial ?_
        | refine x_skip trivial rfl rfl rfl ?_
        | refine x_indexAddr1 rfl rfl rfl (by assumption) (by omega) (by omega) rfl trivial ?_
        | refine x_indexAddr rfl rfl rfl (by assumption) (by omega) (by omega) rfl trivial ?_
        | refine x_nil ?_
        | refine cw_seq ?_
        | refine nw_seq ?_
        | refine nw_block ?_
        | refine cw_block ?_
        | refine cw_skip ?_
        | refine cw_region ?_
        | refine cw_exit rfl ?_
        | refine cw_true rfl ?_
        | refine cw_false rfl ?_)
      refine cw_cond rfl (fun hlt5 => ?_) (fun hlt5 => ?_) <;> (try simp at hlt5)
      · obtain ⟨t, ht⟩ : ∃ t, zs[j]? = some t := ⟨_, List.getElem?_eq_getElem hlt5⟩
        have hct := hA5.keep0.cel (hA j t ht) (fun h => h)
        have hsz := sz_at ht
        have bsz := sz_bd zs j
        repeat (first
          | refine x_move rfl rfl rfl trivial ?_
          | refine x_assign rfl rfl rfl trivial ?_
          | refine x_add rfl rfl rfl (wrap_i64 (by omega) (by omega)) rfl trivial ?_
          | refine x_sub_ rfl rfl rfl (wrap_i64 (by omega) (by omega)) rfl trivial ?_
          | refine x_sub_ rfl rfl rfl (wrap_u32 (by omega) (by omega)) rfl trivial ?_
          | refine x_add rfl rfl rfl (wrap_u32 (by omega) (by omega)) rfl trivial ?_
          | refine x_peqn rfl rfl rfl rfl trivial ?_
          | refine x_pnen rfl rfl rfl rfl trivial ?_
          | refine x_mul rfl rfl rfl (wrap_i64 (by omega) (by omega)) rfl trivial ?_
          | refine x_ibin rfl rfl rfl rfl rfl trivial ?_
          | refine x_neg_ rfl rfl (wrap_i64 (by omega) (by omega)) rfl trivial ?_
          | refine x_len rfl rfl (by assumption) rfl trivial ?_
          | refine x_pick_t rfl rfl rfl rfl trivial ?_
          | refine x_pick_f rfl rfl rfl rfl trivial ?_
          | refine x_not rfl rfl rfl trivial ?_
          | refine x_beq rfl rfl rfl rfl trivial ?_
          | refine x_bne rfl rfl rfl rfl trivial ?_
          | refine x_extract rfl rfl rfl rfl trivial ?_
          | refine x_nilCheck rfl rfl rfl trivial ?_
          | refine x_fieldAddr rfl rfl rfl rfl trivial ?_
          | refine x_skip trivial rfl rfl rfl ?_
          | refine x_indexAddr1 rfl rfl rfl (by assumption) (by omega) (by omega) rfl trivial ?_
          | refine x_indexAddr rfl rfl rfl (by assumption) (by omega) (by omega) rfl trivial ?_
          | refine x_nil ?_
          | refine cw_seq ?_
          | refine nw_seq ?_
          | refine nw_block ?_
          | refine cw_block ?_
          | refine cw_skip ?_
          | refine cw_region ?_
          | refine cw_exit rfl ?_
          | refine cw_true rfl ?_
          | refine cw_false rfl ?_)
        refine cw_loop (fun s : Nat => [(0, va), (1, .int .i64 W), (2, .int .i64 A), (3, .int .u64 w), (9, ptr b 0), (17, .int .i64 j), (18, .int .i64 s)]) (fun s H' => H5 = H' ∧ s ≤ sz zs j) (fun s => sz zs j - s) 0 (by repeat (first | exact True.intro | refine ⟨rfl, ?_⟩)) ⟨rfl, Nat.zero_le _⟩ ?_
        rintro k _ ⟨rfl, hk⟩
        repeat (first
          | refine x_move rfl rfl rfl trivial ?_
          | refine x_assign rfl rfl rfl trivial ?_
          | refine x_add rfl rfl rfl (wrap_i64 (by omega) (by omega)) rfl trivial ?_
          | refine x_sub_ rfl rfl rfl (wrap_i64 (by omega) (by omega)) rfl trivial ?_
          | refine x_sub_ rfl rfl rfl (wrap_u32 (by omega) (by omega)) rfl trivial ?_
          | refine x_add rfl rfl rfl (wrap_u32 (by omega) (by omega)) rfl trivial ?_
          | refine x_peqn rfl rfl rfl rfl trivial ?_
          | refine x_pnen rfl rfl rfl rfl trivial ?_
          | refine x_mul rfl rfl rfl (wrap_i64 (by omega) (by omega)) rfl trivial ?_
          | refine x_ibin rfl rfl rfl rfl rfl trivial ?_
          | refine x_neg_ rfl rfl (wrap_i64 (by omega) (by omega)) rfl trivial ?_
          | refine x_len rfl rfl (by assumption) rfl trivial ?_
          | refine x_pick_t rfl rfl rfl rfl trivial ?_
          | refine x_pick_f rfl rfl rfl rfl trivial ?_
          | refine x_not rfl rfl rfl trivial ?_
          | refine x_beq rfl rfl rfl rfl trivial ?_
          | refine x_bne rfl rfl rfl rfl trivial ?_
          | refine x_extract rfl rfl rfl rfl trivial ?_
          | refine x_nilCheck rfl rfl rfl trivial ?_
          | refine x_fieldAddr rfl rfl rfl rfl trivial ?_
          | refine x_skip trivial rfl rfl rfl ?_
          | refine x_indexAddr1 rfl rfl rfl (by assumption) (by omega) (by omega) rfl trivial ?_
          | refine x_indexAddr rfl rfl rfl (by assumption) (by omega) (by omega) rfl trivial ?_
          | refine x_nil ?_
          | refine cw_seq ?_
          | refine nw_seq ?_
          | refine nw_block ?_
          | refine cw_block ?_
          | refine cw_skip ?_
          | refine cw_region ?_
          | refine cw_exit rfl ?_
          | refine cw_true rfl ?_
          | refine cw_false rfl ?_)
        refine x_load rfl rfl (hpmt (hct)) rfl trivial ?_
        refine x_call rfl rfl rfl trivial (law_LowF t 65 (by omega) H5) ?_
        rintro _ _ ⟨rfl, rfl⟩
        refine ⟨trivial, ?_⟩
        rw [hsz]
        repeat (first
          | refine x_move rfl rfl rfl trivial ?_
          | refine x_assign rfl rfl rfl trivial ?_
          | refine x_add rfl rfl rfl (wrap_i64 (by omega) (by omega)) rfl trivial ?_
          | refine x_sub_ rfl rfl rfl (wrap_i64 (by omega) (by omega)) rfl trivial ?_
          | refine x_sub_ rfl rfl rfl (wrap_u32 (by omega) (by omega)) rfl trivial ?_
          | refine x_add rfl rfl rfl (wrap_u32 (by omega) (by omega)) rfl trivial ?_
          | refine x_peqn rfl rfl rfl rfl trivial ?_
          | refine x_pnen rfl rfl rfl rfl trivial ?_
          | refine x_mul rfl rfl rfl (wrap_i64 (by omega) (by omega)) rfl trivial ?_
          | refine x_ibin rfl rfl rfl rfl rfl trivial ?_
          | refine x_neg_ rfl rfl (wrap_i64 (by omega) (by omega)) rfl trivial ?_
          | refine x_len rfl rfl (by assumption) rfl trivial ?_
          | refine x_pick_t rfl rfl rfl rfl trivial ?_
          | refine x_pick_f rfl rfl rfl rfl trivial ?_
          | refine x_not rfl rfl rfl trivial ?_
          | refine x_beq rfl rfl rfl rfl trivial ?_
          | refine x_bne rfl rfl rfl rfl trivial ?_
          | refine x_extract rfl rfl rfl rfl trivial ?_
          | refine x_nilCheck rfl rfl rfl trivial ?_
          | refine x_fieldAddr rfl rfl rfl rfl trivial ?_
          | refine x_skip trivial rfl rfl rfl ?_
          | refine x_indexAddr1 rfl rfl rfl (by assumption) (by omega) (by omega) rfl trivial ?_
          | refine x_indexAddr rfl rfl rfl (by assumption) (by omega) (by omega) rfl trivial ?_
          | refine x_nil ?_
          | refine cw_seq ?_
          | refine nw_seq ?_
          | refine nw_block ?_
          | refine cw_block ?_
          | refine cw_skip ?_
          | refine cw_region ?_
          | refine cw_exit rfl ?_
          | refine cw_true rfl ?_
          | refine cw_false rfl ?_)
        refine cw_cond rfl (fun hlt6 => ?_) (fun hlt6 => ?_) <;> (try simp at hlt6)
        · obtain ⟨r1, r2⟩ := hp.at_ j k hlt5 hlt6
          repeat (first
            | refine x_move rfl rfl rfl trivial ?_
            | refine x_assign rfl rfl rfl trivial ?_
            | refine x_add rfl rfl rfl (wrap_i64 (by omega) (by omega)) rfl trivial ?_
            | refine x_sub_ rfl rfl rfl (wrap_i64 (by omega) (by omega)) rfl trivial ?_
            | refine x_sub_ rfl rfl rfl (wrap_u32 (by omega) (by omega)) rfl trivial ?_
            | refine x_add rfl rfl rfl (wrap_u32 (by omega) (by omega)) rfl trivial ?_
            | refine x_peqn rfl rfl rfl rfl trivial ?_
            | refine x_pnen rfl rfl rfl rfl trivial ?_
            | refine x_mul rfl rfl rfl (wrap_i64 (by omega) (by omega)) rfl trivial ?_
            | refine x_ibin rfl rfl rfl rfl rfl trivial ?_
            | refine x_neg_ rfl rfl (wrap_i64 (by omega) (by omega)) rfl trivial ?_
            | refine x_len rfl rfl (by assumption) rfl trivial ?_
            | refine x_pick_t rfl rfl rfl rfl trivial ?_
            | refine x_pick_f rfl rfl rfl rfl trivial ?_
            | refine x_not rfl rfl rfl trivial ?_
            | refine x_beq rfl rfl rfl rfl trivial ?_
            | refine x_bne rfl rfl rfl rfl trivial ?_
            | refine x_extract rfl rfl rfl rfl trivial ?_
            | refine x_nilCheck rfl rfl rfl trivial ?_
            | refine x_fieldAddr rfl rfl rfl rfl trivial ?_
            | refine x_skip trivial rfl rfl rfl ?_
            | refine x_indexAddr1 rfl rfl rfl (by assumption) (by omega) (by omega) rfl trivial ?_
            | refine x_indexAddr rfl rfl rfl (by assumption) (by omega) (by omega) rfl trivial ?_
            | refine x_nil ?_
            | refine cw_seq ?_
            | refine nw_seq ?_
            | refine nw_block ?_
            | refine cw_block ?_
            | refine cw_skip ?_
            | refine cw_region ?_
            | refine cw_exit rfl ?_
            | refine cw_true rfl ?_
            | refine cw_false rfl ?_)
          refine x_conv_int rfl rfl rfl trivial ?_
          repeat (first
            | refine x_move rfl rfl rfl trivial ?_
            | refine x_assign rfl rfl rfl trivial ?_
            | refine x_add rfl rfl rfl (wrap_i64 (by omega) (by omega)) rfl trivial ?_
            | refine x_sub_ rfl rfl rfl (wrap_i64 (by omega) (by omega)) rfl trivial ?_
            | refine x_sub_ rfl rfl rfl (wrap_u32 (by omega) (by omega)) rfl trivial ?_
            | refine x_add rfl rfl rfl (wrap_u32 (by omega) (by omega)) rfl trivial ?_
            | refine x_peqn rfl rfl rfl rfl trivial ?_
            | refine x_pnen rfl rfl rfl rfl trivial ?_
            | refine x_mul rfl rfl rfl (wrap_i64 (by omega) (by omega)) rfl trivial ?_
            | refine x_ibin rfl rfl rfl rfl rfl trivial ?_
            | refine x_neg_ rfl rfl (wrap_i64 (by omega) (by omega)) rfl trivial ?_
            | refine x_len rfl rfl (by assumption) rfl trivial ?_
            | refine x_pick_t rfl rfl rfl rfl trivial ?_
            | refine x_pick_f rfl rfl rfl rfl trivial ?_
            | refine x_not rfl rfl rfl trivial ?_
            | refine x_beq rfl rfl rfl rfl trivial ?_
            | refine x_bne rfl rfl rfl rfl trivial ?_
            | refine x_extract rfl rfl rfl rfl trivial ?_
            | refine x_nilCheck rfl rfl rfl trivial ?_
            | refine x_fieldAddr rfl rfl rfl rfl trivial ?_
            | refine x_skip trivial rfl rfl rfl ?_
            | refine x_indexAddr1 rfl rfl rfl (by assumption) (by omega) (by omega) rfl trivial ?_
            | refine x_indexAddr rfl rfl rfl (by assumption) (by omega) (by omega) rfl trivial ?_
            | refine x_nil ?_
            | refine cw_seq ?_
            | refine nw_seq ?_
            | refine nw_block ?_
            | refine cw_block ?_
            | refine cw_skip ?_
            | refine cw_region ?_
            | refine cw_exit rfl ?_
            | refine cw_true rfl ?_
            | refine cw_false rfl ?_)
          refine x_split 137 rfl (fun hjW => ?_) (fun hjW => ?_) <;> (try simp at hjW)
          · repeat (first
              | refine x_move rfl rfl rfl trivial ?_
              | refine x_assign rfl rfl rfl trivial ?_
              | refine x_add rfl rfl rfl (wrap_i64 (by omega) (by omega)) rfl trivial ?_
              | refine x_sub_ rfl rfl rfl (wrap_i64 (by omega) (by omega)) rfl trivial ?_
              | refine x_sub_ rfl rfl rfl (wrap_u32 (by omega) (by omega)) rfl trivial ?_
              | refine x_add rfl rfl rfl (wrap_u32 (by omega) (by omega)) rfl trivial ?_
              | refine x_peqn rfl rfl rfl rfl trivial ?_
              | refine x_pnen rfl rfl rfl rfl trivial ?_
              | refine x_mul rfl rfl rfl (wrap_i64 (by omega) (by omega)) rfl trivial ?_
              | refine x_ibin rfl rfl rfl rfl rfl trivial ?_
              | refine x_neg_ rfl rfl (wrap_i64 (by omega) (by omega)) rfl trivial ?_
              | refine x_len rfl rfl (by assumption) rfl trivial ?_
              | refine x_pick_t rfl rfl rfl rfl trivial ?_
              | refine x_pick_f rfl rfl rfl rfl trivial ?_
              | refine x_not rfl rfl rfl trivial ?_
              | refine x_beq rfl rfl rfl rfl trivial ?_
              | refine x_bne rfl rfl rfl rfl trivial ?_
              | refine x_extract rfl rfl rfl rfl trivial ?_
              | refine x_nilCheck rfl rfl rfl trivial ?_
              | refine x_fieldAddr rfl rfl rfl rfl trivial ?_
              | refine x_skip trivial rfl rfl rfl ?_
              | refine x_indexAddr1 rfl rfl rfl (by assumption) (by omega) (by omega) rfl trivial ?_
              | refine x_indexAddr rfl rfl rfl (by assumption) (by omega) (by omega) rfl trivial ?_
              | refine x_nil ?_
              | refine cw_seq ?_
              | refine nw_seq ?_
              | refine nw_block ?_
              | refine cw_block ?_
              | refine cw_skip ?_
              | refine cw_region ?_
              | refine cw_exit rfl ?_
              | refine cw_true rfl ?_
              | refine cw_false rfl ?_)
            refine cw_cond rfl (fun hkA => ?_) (fun hkA => ?_) <;> (try simp at hkA)
            · rw [if_pos (show j = W ∧ k = A by omega)] at r2
              repeat (first
                | refine x_move rfl rfl rfl trivial ?_
                | refine x_assign rfl rfl rfl trivial ?_
                | refine x_add rfl rfl rfl (wrap_i64 (by omega) (by omega)) rfl trivial ?_
                | refine x_sub_ rfl rfl rfl (wrap_i64 (by omega) (by omega)) rfl trivial ?_
                | refine x_sub_ rfl rfl rfl (wrap_u32 (by omega) (by omega)) rfl trivial ?_
                | refine x_add rfl rfl rfl (wrap_u32 (by omega) (by omega)) rfl trivial ?_
                | refine x_peqn rfl rfl rfl rfl trivial ?_
                | refine x_pnen rfl rfl rfl rfl trivial ?_
                | refine x_mul rfl rfl rfl (wrap_i64 (by omega) (by omega)) rfl trivial ?_
                | refine x_ibin rfl rfl rfl rfl rfl trivial ?_
                | refine x_neg_ rfl rfl (wrap_i64 (by omega) (by omega)) rfl trivial ?_
                | refine x_len rfl rfl (by assumption) rfl trivial ?_
                | refine x_pick_t rfl rfl rfl rfl trivial ?_
                | refine x_pick_f rfl rfl rfl rfl trivial ?_
                | refine x_not rfl rfl rfl trivial ?_
                | refine x_beq rfl rfl rfl rfl trivial ?_
                | refine x_bne rfl rfl rfl rfl trivial ?_
                | refine x_extract rfl rfl rfl rfl trivial ?_
                | refine x_nilCheck rfl rfl rfl trivial ?_
                | refine x_fieldAddr rfl rfl rfl rfl trivial ?_
                | refine x_skip trivial rfl rfl rfl ?_
                | refine x_indexAddr1 rfl rfl rfl (by assumption) (by omega) (by omega) rfl trivial ?_
                | refine x_indexAddr rfl rfl rfl (by assumption) (by omega) (by omega) rfl trivial ?_
                | refine x_nil ?_
                | refine cw_seq ?_
                | refine nw_seq ?_
                | refine nw_block ?_
                | refine cw_block ?_
                | refine cw_skip ?_
                | refine cw_region ?_
                | refine cw_exit rfl ?_
                | refine cw_true rfl ?_
                | refine cw_false rfl ?_)
              refine x_conv_int rfl rfl rfl trivial ?_
              rw [wrap_u32 (by omega) (by omega), show (j : Int) + 1 = ((j + 1 : Nat) : Int) by omega]
              repeat (first
                | refine x_move rfl rfl rfl trivial ?_
                | refine x_assign rfl rfl rfl trivial ?_
                | refine x_add rfl rfl rfl (wrap_i64 (by omega) (by omega)) rfl trivial ?_
                | refine x_sub_ rfl rfl rfl (wrap_i64 (by omega) (by omega)) rfl trivial ?_
                | refine x_sub_ rfl rfl rfl (wrap_u32 (by omega) (by omega)) rfl trivial ?_
                | refine x_add rfl rfl rfl (wrap_u32 (by omega) (by omega)) rfl trivial ?_
                | refine x_peqn rfl rfl rfl rfl trivial ?_
                | refine x_pnen rfl rfl rfl rfl trivial ?_
                | refine x_mul rfl rfl rfl (wrap_i64 (by omega) (by omega)) rfl trivial ?_
                | refine x_ibin rfl rfl rfl rfl rfl trivial ?_
                | refine x_neg_ rfl rfl (wrap_i64 (by omega) (by omega)) rfl trivial ?_
                | refine x_len rfl rfl (by assumption) rfl trivial ?_
                | refine x_pick_t rfl rfl rfl rfl trivial ?_
                | refine x_pick_f rfl rfl rfl rfl trivial ?_
                | refine x_not rfl rfl rfl trivial ?_
                | refine x_beq rfl rfl rfl rfl trivial ?_
                | refine x_bne rfl rfl rfl rfl trivial ?_
                | refine x_extract rfl rfl rfl rfl trivial ?_
                | refine x_nilCheck rfl rfl rfl trivial ?_
                | refine x_fieldAddr rfl rfl rfl rfl trivial ?_
                | refine x_skip trivial rfl rfl rfl ?_
                | refine x_indexAddr1 rfl rfl rfl (by assumption) (by omega) (by omega) rfl trivial ?_
                | refine x_indexAddr rfl rfl rfl (by assumption) (by omega) (by omega) rfl trivial ?_
                | refine x_nil ?_
                | refine cw_seq ?_
                | refine nw_seq ?_
                | refine nw_block ?_
                | refine cw_block ?_
                | refine cw_skip ?_
                | refine cw_region ?_
                | refine cw_exit rfl ?_
                | refine cw_true rfl ?_
                | refine cw_false rfl ?_)
              refine x_call rfl rfl rfl trivial (as_Get (a := a) (h := j + 1) (i := k) hA5 (by omega) (by omega)) ?_
              rintro _ _ ⟨rfl, rfl⟩
              refine ⟨trivial, ?_⟩
              rw [r1, r2]
              repeat (first
                | refine x_move rfl rfl rfl trivial ?_
                | refine x_assign rfl rfl rfl trivial ?_
                | refine x_add rfl rfl rfl (wrap_i64 (by omega) (by omega)) rfl trivial ?_
                | refine x_sub_ rfl rfl rfl (wrap_i64 (by omega) (by omega)) rfl trivial ?_
                | refine x_sub_ rfl rfl rfl (wrap_u32 (by omega) (by omega)) rfl trivial ?_
                | refine x_add rfl rfl rfl (wrap_u32 (by omega) (by omega)) rfl trivial ?_
                | refine x_peqn rfl rfl rfl rfl trivial ?_
                | refine x_pnen rfl rfl rfl rfl trivial ?_
                | refine x_mul rfl rfl rfl (wrap_i64 (by omega) (by omega)) rfl trivial ?_
                | refine x_ibin rfl rfl rfl rfl rfl trivial ?_
                | refine x_neg_ rfl rfl (wrap_i64 (by omega) (by omega)) rfl trivial ?_
                | refine x_len rfl rfl (by assumption) rfl trivial ?_
                | refine x_pick_t rfl rfl rfl rfl trivial ?_
                | refine x_pick_f rfl rfl rfl rfl trivial ?_
                | refine x_not rfl rfl rfl trivial ?_
                | refine x_beq rfl rfl rfl rfl trivial ?_
                | refine x_bne rfl rfl rfl rfl trivial ?_
                | refine x_extract rfl rfl rfl rfl trivial ?_
                | refine x_nilCheck rfl rfl rfl trivial ?_
                | refine x_fieldAddr rfl rfl rfl rfl trivial ?_
                | refine x_skip trivial rfl rfl rfl ?_
                | refine x_indexAddr1 rfl rfl rfl (by assumption) (by omega) (by omega) rfl trivial ?_
                | refine x_indexAddr rfl rfl rfl (by assumption) (by omega) (by omega) rfl trivial ?_
                | refine x_nil ?_
                | refine cw_seq ?_
                | refine nw_seq ?_
                | refine nw_block ?_
                | refine cw_block ?_
                | refine cw_skip ?_
                | refine cw_region ?_
                | refine cw_exit rfl ?_
                | refine cw_true rfl ?_
                | refine cw_false rfl ?_)
              refine x_false 155 rfl (by simp [wd]) ?_
              repeat (first
                | refine x_move rfl rfl rfl trivial ?_
                | refine x_assign rfl rfl rfl trivial ?_
                | refine x_add rfl rfl rfl (wrap_i64 (by omega) (by omega)) rfl trivial ?_
                | refine x_sub_ rfl rfl rfl (wrap_i64 (by omega) (by omega)) rfl trivial ?_
                | refine x_sub_ rfl rfl rfl (wrap_u32 (by omega) (by omega)) rfl trivial ?_
                | refine x_add rfl rfl rfl (wrap_u32 (by omega) (by omega)) rfl trivial ?_
                | refine x_peqn rfl rfl rfl rfl trivial ?_
                | refine x_pnen rfl rfl rfl rfl trivial ?_
                | refine x_mul rfl rfl rfl (wrap_i64 (by omega) (by omega)) rfl trivial ?_
                | refine x_ibin rfl rfl rfl rfl rfl trivial ?_
                | refine x_neg_ rfl rfl (wrap_i64 (by omega) (by omega)) rfl trivial ?_
                | refine x_len rfl rfl (by assumption) rfl trivial ?_
                | refine x_pick_t rfl rfl rfl rfl trivial ?_
                | refine x_pick_f rfl rfl rfl rfl trivial ?_
                | refine x_not rfl rfl rfl trivial ?_
                | refine x_beq rfl rfl rfl rfl trivial ?_
                | refine x_bne rfl rfl rfl rfl trivial ?_
                | refine x_extract rfl rfl rfl rfl trivial ?_
                | refine x_nilCheck rfl rfl rfl trivial ?_
                | refine x_fieldAddr rfl rfl rfl rfl trivial ?_
                | refine x_skip trivial rfl rfl rfl ?_
                | refine x_indexAddr1 rfl rfl rfl (by assumption) (by omega) (by omega) rfl trivial ?_
                | refine x_indexAddr rfl rfl rfl (by assumption) (by omega) (by omega) rfl trivial ?_
                | refine x_nil ?_
                | refine cw_seq ?_
                | refine nw_seq ?_
                | refine nw_block ?_
                | refine cw_block ?_
                | refine cw_skip ?_
                | refine cw_region ?_
                | refine cw_exit rfl ?_
                | refine cw_true rfl ?_
                | refine cw_false rfl ?_)
              exact nw_round (k + 1) (by repeat (first | exact True.intro | refine ⟨rfl, ?_⟩)) ⟨rfl, by show k + 1 ≤ _; omega⟩ (by show sz zs j - (k + 1) < sz zs j - k; omega)
            · rw [if_neg (show ¬ (j = W ∧ k = A) by omega)] at r2
              repeat (first
                | refine x_move rfl rfl rfl trivial ?_
                | refine x_assign rfl rfl rfl trivial ?_
                | refine x_add rfl rfl rfl (wrap_i64 (by omega) (by omega)) rfl trivial ?_
                | refine x_sub_ rfl rfl rfl (wrap_i64 (by omega) (by omega)) rfl trivial ?_
                | refine x_sub_ rfl rfl rfl (wrap_u32 (by omega) (by omega)) rfl trivial ?_
                | refine x_add rfl rfl rfl (wrap_u32 (by omega) (by omega)) rfl trivial ?_
                | refine x_peqn rfl rfl rfl rfl trivial ?_
                | refine x_pnen rfl rfl rfl rfl trivial ?_
                | refine x_mul rfl rfl rfl (wrap_i64 (by omega) (by omega)) rfl trivial ?_
                | refine x_ibin rfl rfl rfl rfl rfl trivial ?_
                | refine x_neg_ rfl rfl (wrap_i64 (by omega) (by omega)) rfl trivial ?_
                | refine x_len rfl rfl (by assumption) rfl trivial ?_
                | refine x_pick_t rfl rfl rfl rfl trivial ?_
                | refine x_pick_f rfl rfl rfl rfl trivial ?_
                | refine x_not rfl rfl rfl trivial ?_
                | refine x_beq rfl rfl rfl rfl trivial ?_
                | refine x_bne rfl rfl rfl rfl trivial ?_
                | refine x_extract rfl rfl rfl rfl trivial ?_
                | refine x_nilCheck rfl rfl rfl trivial ?_
                | refine x_fieldAddr rfl rfl rfl rfl trivial ?_
                | refine x_skip trivial rfl rfl rfl ?_
                | refine x_indexAddr1 rfl rfl rfl (by assumption) (by omega) (by omega) rfl trivial ?_
                | refine x_indexAddr rfl rfl rfl (by assumption) (by omega) (by omega) rfl trivial ?_
                | refine x_nil ?_
                | refine cw_seq ?_
                | refine nw_seq ?_
                | refine nw_block ?_
                | refine cw_block ?_
                | refine cw_skip ?_
                | refine cw_region ?_
                | refine cw_exit rfl ?_
                | refine cw_true rfl ?_
                | refine cw_false rfl ?_)
              refine x_conv_int rfl rfl rfl trivial ?_
              rw [wrap_u32 (by omega) (by omega), show (j : Int) + 1 = ((j + 1 : Nat) : Int) by omega]
              repeat (first
                | refine x_move rfl rfl rfl trivial ?_
                | refine x_assign rfl rfl rfl trivial ?_
                | refine x_add rfl rfl rfl (wrap_i64 (by omega) (by omega)) rfl trivial ?_
                | refine x_sub_ rfl rfl rfl (wrap_i64 (by omega) (by omega)) rfl trivial ?_
                | refine x_sub_ rfl rfl rfl (wrap_u32 (by omega) (by omega)) rfl trivial ?_
                | refine x_add rfl rfl rfl (wrap_u32 (by omega) (by omega)) rfl trivial ?_
                | refine x_peqn rfl rfl rfl rfl trivial ?_
                | refine x_pnen rfl rfl rfl rfl trivial ?_
                | refine x_mul rfl rfl rfl (wrap_i64 (by omega) (by omega)) rfl trivial ?_
                | refine x_ibin rfl rfl rfl rfl rfl trivial ?_
                | refine x_neg_ rfl rfl (wrap_i64 (by omega) (by omega)) rfl trivial ?_
                | refine x_len rfl rfl (by assumption) rfl trivial ?_
                | refine x_pick_t rfl rfl rfl rfl trivial ?_
                | refine x_pick_f rfl rfl rfl rfl trivial ?_
                | refine x_not rfl rfl rfl trivial ?_
                | refine x_beq rfl rfl rfl rfl trivial ?_
                | refine x_bne rfl rfl rfl rfl trivial ?_
                | refine x_extract rfl rfl rfl rfl trivial ?_
                | refine x_nilCheck rfl rfl rfl trivial ?_
                | refine x_fieldAddr rfl rfl rfl rfl trivial ?_
                | refine x_skip trivial rfl rfl rfl ?_
                | refine x_indexAddr1 rfl rfl rfl (by assumption) (by omega) (by omega) rfl trivial ?_
                | refine x_indexAddr rfl rfl rfl (by assumption) (by omega) (by omega) rfl trivial ?_
                | refine x_nil ?_
                | refine cw_seq ?_
                | refine nw_seq ?_
                | refine nw_block ?_
                | refine cw_block ?_
                | refine cw_skip ?_
                | refine cw_region ?_
                | refine cw_exit rfl ?_
                | refine cw_true rfl ?_
                | refine cw_false rfl ?_)
              refine x_call rfl rfl rfl trivial (as_Get (a := a) (h := j + 1) (i := k) hA5 (by omega) (by omega)) ?_
              rintro _ _ ⟨rfl, rfl⟩
              refine ⟨trivial, ?_⟩
              rw [r1, r2]
              repeat (first
                | refine x_move rfl rfl rfl trivial ?_
                | refine x_assign rfl rfl rfl trivial ?_
                | refine x_add rfl rfl rfl (wrap_i64 (by omega) (by omega)) rfl trivial ?_
                | refine x_sub_ rfl rfl rfl (wrap_i64 (by omega) (by omega)) rfl trivial ?_
                | refine x_sub_ rfl rfl rfl (wrap_u32 (by omega) (by omega)) rfl trivial ?_
                | refine x_add rfl rfl rfl (wrap_u32 (by omega) (by omega)) rfl trivial ?_
                | refine x_peqn rfl rfl rfl rfl trivial ?_
                | refine x_pnen rfl rfl rfl rfl trivial ?_
                | refine x_mul rfl rfl rfl (wrap_i64 (by omega) (by omega)) rfl trivial ?_
                | refine x_ibin rfl rfl rfl rfl rfl trivial ?_
                | refine x_neg_ rfl rfl (wrap_i64 (by omega) (by omega)) rfl trivial ?_
                | refine x_len rfl rfl (by assumption) rfl trivial ?_
                | refine x_pick_t rfl rfl rfl rfl trivial ?_
                | refine x_pick_f rfl rfl rfl rfl trivial ?_
                | refine x_not rfl rfl rfl trivial ?_
                | refine x_beq rfl rfl rfl rfl trivial ?_
                | refine x_bne rfl rfl rfl rfl trivial ?_
                | refine x_extract rfl rfl rfl rfl trivial ?_
                | refine x_nilCheck rfl rfl rfl trivial ?_
                | refine x_fieldAddr rfl rfl rfl rfl trivial ?_
                | refine x_skip trivial rfl rfl rfl ?_
                | refine x_indexAddr1 rfl rfl rfl (by assumption) (by omega) (by omega) rfl trivial ?_
                | refine x_indexAddr rfl rfl rfl (by assumption) (by omega) (by omega) rfl trivial ?_
                | refine x_nil ?_
                | refine cw_seq ?_
                | refine nw_seq ?_
                | refine nw_block ?_
                | refine cw_block ?_
                | refine cw_skip ?_
                | refine cw_region ?_
                | refine cw_exit rfl ?_
                | refine cw_true rfl ?_
                | refine cw_false rfl ?_)
              refine x_false 155 rfl (by simp [wd]) ?_
              repeat (first
                | refine x_move rfl rfl rfl trivial ?_
                | refine x_assign rfl rfl rfl trivial ?_
                | refine x_add rfl rfl rfl (wrap_i64 (by omega) (by omega)) rfl trivial ?_
                | refine x_sub_ rfl rfl rfl (wrap_i64 (by omega) (by omega)) rfl trivial ?_
                | refine x_sub_ rfl rfl rfl (wrap_u32 (by omega) (by omega)) rfl trivial ?_
                | refine x_add rfl rfl rfl (wrap_u32 (by omega) (by omega)) rfl trivial ?_
                | refine x_peqn rfl rfl rfl rfl trivial ?_
                | refine x_pnen rfl rfl rfl rfl trivial ?_
                | refine x_mul rfl rfl rfl (wrap_i64 (by omega) (by omega)) rfl trivial ?_
                | refine x_ibin rfl rfl rfl rfl rfl trivial ?_
                | refine x_neg_ rfl rfl (wrap_i64 (by omega) (by omega)) rfl trivial ?_
                | refine x_len rfl rfl (by assumption) rfl trivial ?_
                | refine x_pick_t rfl rfl rfl rfl trivial ?_
                | refine x_pick_f rfl rfl rfl rfl trivial ?_
                | refine x_not rfl rfl rfl trivial ?_
                | refine x_beq rfl rfl rfl rfl trivial ?_
                | refine x_bne rfl rfl rfl rfl trivial ?_
                | refine x_extract rfl rfl rfl rfl trivial ?_
                | refine x_nilCheck rfl rfl rfl trivial ?_
                | refine x_fieldAddr rfl rfl rfl rfl trivial ?_
                | refine x_skip trivial rfl rfl rfl ?_
                | refine x_indexAddr1 rfl rfl rfl (by assumption) (by omega) (by omega) rfl trivial ?_
                | refine x_indexAddr rfl rfl rfl (by assumption) (by omega) (by omega) rfl trivial ?_
                | refine x_nil ?_
                | refine cw_seq ?_
                | refine nw_seq ?_
                | refine nw_block ?_
                | refine cw_block ?_
                | refine cw_skip ?_
                | refine cw_region ?_
                | refine cw_exit rfl ?_
                | refine cw_true rfl ?_
                | refine cw_false rfl ?_)
              exact nw_round (k + 1) (by repeat (first | exact True.intro | refine ⟨rfl, ?_⟩)) ⟨rfl, by show k + 1 ≤ _; omega⟩ (by show sz zs j - (k + 1) < sz zs j - k; omega)
          · rw [if_neg (show ¬ (j = W ∧ k = A) by omega)] at r2
            repeat (first
              | refine x_move rfl rfl rfl trivial ?_
              | refine x_assign rfl rfl rfl trivial ?_
              | refine x_add rfl rfl rfl (wrap_i64 (by omega) (by omega)) rfl trivial ?_
              | refine x_sub_ rfl rfl rfl (wrap_i64 (by omega) (by omega)) rfl trivial ?_
              | refine x_sub_ rfl rfl rfl (wrap_u32 (by omega) (by omega)) rfl trivial ?_
              | refine x_add rfl rfl rfl (wrap_u32 (by omega) (by omega)) rfl trivial ?_
              | refine x_peqn rfl rfl rfl rfl trivial ?_
              | refine x_pnen rfl rfl rfl rfl trivial ?_
              | refine x_mul rfl rfl rfl (wrap_i64 (by omega) (by omega)) rfl trivial ?_
              | refine x_ibin rfl rfl rfl rfl rfl trivial ?_
              | refine x_neg_ rfl rfl (wrap_i64 (by omega) (by omega)) rfl trivial ?_
              | refine x_len rfl rfl (by assumption) rfl trivial ?_
              | refine x_pick_t rfl rfl rfl rfl trivial ?_
              | refine x_pick_f rfl rfl rfl rfl trivial ?_
              | refine x_not rfl rfl rfl trivial ?_
              | refine x_beq rfl rfl rfl rfl trivial ?_
              | refine x_bne rfl rfl rfl rfl trivial ?_
              | refine x_extract rfl rfl rfl rfl trivial ?_
              | refine x_nilCheck rfl rfl rfl trivial ?_
              | refine x_fieldAddr rfl rfl rfl rfl trivial ?_
              | refine x_skip trivial rfl rfl rfl ?_
              | refine x_indexAddr1 rfl rfl rfl (by assumption) (by omega) (by omega) rfl trivial ?_
              | refine x_indexAddr rfl rfl rfl (by assumption) (by omega) (by omega) rfl trivial ?_
              | refine x_nil ?_
              | refine cw_seq ?_
              | refine nw_seq ?_
              | refine nw_block ?_
              | refine cw_block ?_
              | refine cw_skip ?_
              | refine cw_region ?_
              | refine cw_exit rfl ?_
              | refine cw_true rfl ?_
              | refine cw_false rfl ?_)
            refine x_conv_int rfl rfl rfl trivial ?_
            rw [wrap_u32 (by omega) (by omega), show (j : Int) + 1 = ((j + 1 : Nat) : Int) by omega]
            repeat (first
              | refine x_move rfl rfl rfl trivial ?_
              | refine x_assign rfl rfl rfl trivial ?_
              | refine x_add rfl rfl rfl (wrap_i64 (by omega) (by omega)) rfl trivial ?_
              | refine x_sub_ rfl rfl rfl (wrap_i64 (by omega) (by omega)) rfl trivial ?_
              | refine x_sub_ rfl rfl rfl (wrap_u32 (by omega) (by omega)) rfl trivial ?_
              | refine x_add rfl rfl rfl (wrap_u32 (by omega) (by omega)) rfl trivial ?_
              | refine x_peqn rfl rfl rfl rfl trivial ?_
              | refine x_pnen rfl rfl rfl rfl trivial ?_
              | refine x_mul rfl rfl rfl (wrap_i64 (by omega) (by omega)) rfl trivial ?_
              | refine x_ibin rfl rfl rfl rfl rfl trivial ?_
              | refine x_neg_ rfl rfl (wrap_i64 (by omega) (by omega)) rfl trivial ?_
              | refine x_len rfl rfl (by assumption) rfl trivial ?_
              | refine x_pick_t rfl rfl rfl rfl trivial ?_
              | refine x_pick_f rfl rfl rfl rfl trivial ?_
              | refine x_not rfl rfl rfl trivial ?_
              | refine x_beq rfl rfl rfl rfl trivial ?_
              | refine x_bne rfl rfl rfl rfl trivial ?_
              | refine x_extract rfl rfl rfl rfl trivial ?_
              | refine x_nilCheck rfl rfl rfl trivial ?_
              | refine x_fieldAddr rfl rfl rfl rfl trivial ?_
              | refine x_skip trivial rfl rfl rfl ?_
              | refine x_indexAddr1 rfl rfl rfl (by assumption) (by omega) (by omega) rfl trivial ?_
              | refine x_indexAddr rfl rfl rfl (by assumption) (by omega) (by omega) rfl trivial ?_
              | refine x_nil ?_
              | refine cw_seq ?_
              | refine nw_seq ?_
              | refine nw_block ?_
              | refine cw_block ?_
              | refine cw_skip ?_
              | refine cw_region ?_
              | refine cw_exit rfl ?_
              | refine cw_true rfl ?_
              | refine cw_false rfl ?_)
            refine x_call rfl rfl rfl trivial (as_Get (a := a) (h := j + 1) (i := k) hA5 (by omega) (by omega)) ?_
            rintro _ _ ⟨rfl, rfl⟩
            refine ⟨trivial, ?_⟩
            rw [r1, r2]
            repeat (first
              | refine x_move rfl rfl rfl trivial ?_
              | refine x_assign rfl rfl rfl trivial ?_
              | refine x_add rfl rfl rfl (wrap_i64 (by omega) (by omega)) rfl trivial ?_
              | refine x_sub_ rfl rfl rfl (wrap_i64 (by omega) (by omega)) rfl trivial ?_
              | refine x_sub_ rfl rfl rfl (wrap_u32 (by omega) (by omega)) rfl trivial ?_
              | refine x_add rfl rfl rfl (wrap_u32 (by omega) (by omega)) rfl trivial ?_
              | refine x_peqn rfl rfl rfl rfl trivial ?_
              | refine x_pnen rfl rfl rfl rfl trivial ?_
              | refine x_mul rfl rfl rfl (wrap_i64 (by omega) (by omega)) rfl trivial ?_
              | refine x_ibin rfl rfl rfl rfl rfl trivial ?_
              | refine x_neg_ rfl rfl (wrap_i64 (by omega) (by omega)) rfl trivial ?_
              | refine x_len rfl rfl (by assumption) rfl trivial ?_
              | refine x_pick_t rfl rfl rfl rfl trivial ?_
              | refine x_pick_f rfl rfl rfl rfl trivial ?_
              | refine x_not rfl rfl rfl trivial ?_
              | refine x_beq rfl rfl rfl rfl trivial ?_
              | refine x_bne rfl rfl rfl rfl trivial ?_
              | refine x_extract rfl rfl rfl rfl trivial ?_
              | refine x_nilCheck rfl rfl rfl trivial ?_
              | refine x_fieldAddr rfl rfl rfl rfl trivial ?_
              | refine x_skip trivial rfl rfl rfl ?_
              | refine x_indexAddr1 rfl rfl rfl (by assumption) (by omega) (by omega) rfl trivial ?_
              | refine x_indexAddr rfl rfl rfl (by assumption) (by omega) (by omega) rfl trivial ?_
              | refine x_nil ?_
              | refine cw_seq ?_
              | refine nw_seq ?_
              | refine nw_block ?_
              | refine cw_block ?_
              | refine cw_skip ?_
              | refine cw_region ?_
              | refine cw_exit rfl ?_
              | refine cw_true rfl ?_
              | refine cw_false rfl ?_)
            refine x_false 155 rfl (by simp [wd]) ?_
            repeat (first
              | refine x_move rfl rfl rfl trivial ?_
              | refine x_assign rfl rfl rfl trivial ?_
              | refine x_add rfl rfl rfl (wrap_i64 (by omega) (by omega)) rfl trivial ?_
              | refine x_sub_ rfl rfl rfl (wrap_i64 (by omega) (by omega)) rfl trivial ?_
              | refine x_sub_ rfl rfl rfl (wrap_u32 (by omega) (by omega)) rfl trivial ?_
              | refine x_add rfl rfl rfl (wrap_u32 (by omega) (by omega)) rfl trivial ?_
              | refine x_peqn rfl rfl rfl rfl trivial ?_
              | refine x_pnen rfl rfl rfl rfl trivial ?_
              | refine x_mul rfl rfl rfl (wrap_i64 (by omega) (by omega)) rfl trivial ?_
              | refine x_ibin rfl rfl rfl rfl rfl trivial ?_
              | refine x_neg_ rfl rfl (wrap_i64 (by omega) (by omega)) rfl trivial ?_
              | refine x_len rfl rfl (by assumption) rfl trivial ?_
              | refine x_pick_t rfl rfl rfl rfl trivial ?_
              | refine x_pick_f rfl rfl rfl rfl trivial ?_
              | refine x_not rfl rfl rfl trivial ?_
              | refine x_beq rfl rfl rfl rfl trivial ?_
              | refine x_bne rfl rfl rfl rfl trivial ?_
              | refine x_extract rfl rfl rfl rfl trivial ?_
              | refine x_nilCheck rfl rfl rfl trivial ?_
              | refine x_fieldAddr rfl rfl rfl rfl trivial ?_
              | refine x_skip trivial rfl rfl rfl ?_
              | refine x_indexAddr1 rfl rfl rfl (by assumption) (by omega) (by omega) rfl trivial ?_
              | refine x_indexAddr rfl rfl rfl (by assumption) (by omega) (by omega) rfl trivial ?_
              | refine x_nil ?_
              | refine cw_seq ?_
              | refine nw_seq ?_
              | refine nw_block ?_
              | refine cw_block ?_
              | refine cw_skip ?_
              | refine cw_region ?_
              | refine cw_exit rfl ?_
              | refine cw_true rfl ?_
              | refine cw_false rfl ?_)
            exact nw_round (k + 1) (by repeat (first | exact True.intro | refine ⟨rfl, ?_⟩)) ⟨rfl, by show k + 1 ≤ _; omega⟩ (by show sz zs j - (k + 1) < sz zs j - k; omega)
        · repeat (first
            | refine x_move rfl rfl rfl trivial ?_
            | refine x_assign rfl rfl rfl trivial ?_
            | refine x_add rfl rfl rfl (wrap_i64 (by omega) (by omega)) rfl trivial ?_
            | refine x_sub_ rfl rfl rfl (wrap_i64 (by omega) (by omega)) rfl trivial ?_
            | refine x_sub_ rfl rfl rfl (wrap_u32 (by omega) (by omega)) rfl trivial ?_
            | refine x_add rfl rfl rfl (wrap_u32 (by omega) (by omega)) rfl trivial ?_
            | refine x_peqn rfl rfl rfl rfl trivial ?_
            | refine x_pnen rfl rfl rfl rfl trivial ?_
            | refine x_mul rfl rfl rfl (wrap_i64 (by omega) (by omega)) rfl trivial ?_
            | refine x_ibin rfl rfl rfl rfl rfl trivial ?_
            | refine x_neg_ rfl rfl (wrap_i64 (by omega) (by omega)) rfl trivial ?_
            | refine x_len rfl rfl (by assumption) rfl trivial ?_
            | refine x_pick_t rfl rfl rfl rfl trivial ?_
            | refine x_pick_f rfl rfl rfl rfl trivial ?_
            | refine x_not rfl rfl rfl trivial ?_
            | refine x_beq rfl rfl rfl rfl trivial ?_
            | refine x_bne rfl rfl rfl rfl trivial ?_
            | refine x_extract rfl rfl rfl rfl trivial ?_
            | refine x_nilCheck rfl rfl rfl trivial ?_
            | refine x_fieldAddr rfl rfl rfl rfl trivial ?_
            | refine x_skip trivial rfl rfl rfl ?_
            | refine x_indexAddr1 rfl rfl rfl (by assumption) (by omega) (by omega) rfl trivial ?_
            | refine x_indexAddr rfl rfl rfl (by assumption) (by omega) (by omega) rfl trivial ?_
            | refine x_nil ?_
            | refine cw_seq ?_
            | refine nw_seq ?_
            | refine nw_block ?_
            | refine cw_block ?_
            | refine cw_skip ?_
            | refine cw_region ?_
            | refine cw_exit rfl ?_
            | refine cw_true rfl ?_
            | refine cw_false rfl ?_)
          exact nw_round (j + 1) (by repeat (first | exact True.intro | refine ⟨rfl, ?_⟩)) ⟨rfl, by show j + 1 ≤ _; omega⟩ (by show zs.length - (j + 1) < zs.length - j; omega)
      · have hje : j = zs.length := by omega
        subst hje
        repeat (first
          | refine x_move rfl rfl rfl trivial ?_
          | refine x_assign rfl rfl rfl trivial ?_
          | refine x_add rfl rfl rfl (wrap_i64 (by omega) (by omega)) rfl trivial ?_
          | refine x_sub_ rfl rfl rfl (wrap_i64 (by omega) (by omega)) rfl trivial ?_
          | refine x_sub_ rfl rfl rfl (wrap_u32 (by omega) (by omega)) rfl trivial ?_
          | refine x_add rfl rfl rfl (wrap_u32 (by omega) (by omega)) rfl trivial ?_
          | refine x_peqn rfl rfl rfl rfl trivial ?_
          | refine x_pnen rfl rfl rfl rfl trivial ?_
          | refine x_mul rfl rfl rfl (wrap_i64 (by omega) (by omega)) rfl trivial ?_
          | refine x_ibin rfl rfl rfl rfl rfl trivial ?_
          | refine x_neg_ rfl rfl (wrap_i64 (by omega) (by omega)) rfl trivial ?_
          | refine x_len rfl rfl (by assumption) rfl trivial ?_
          | refine x_pick_t rfl rfl rfl rfl trivial ?_
          | refine x_pick_f rfl rfl rfl rfl trivial ?_
          | refine x_not rfl rfl rfl trivial ?_
          | refine x_beq rfl rfl rfl rfl trivial ?_
          | refine x_bne rfl rfl rfl rfl trivial ?_
          | refine x_extract rfl rfl rfl rfl trivial ?_
          | refine x_nilCheck rfl rfl rfl trivial ?_
          | refine x_fieldAddr rfl rfl rfl rfl trivial ?_
          | refine x_skip trivial rfl rfl rfl ?_
          | refine x_indexAddr1 rfl rfl rfl (by assumption) (by omega) (by omega) rfl trivial ?_
          | refine x_indexAddr rfl rfl rfl (by assumption) (by omega) (by omega) rfl trivial ?_
          | refine x_nil ?_
          | refine cw_seq ?_
          | refine nw_seq ?_
          | refine nw_block ?_
          | refine cw_block ?_
          | refine cw_skip ?_
          | refine cw_region ?_
          | refine cw_exit rfl ?_
          | refine cw_true rfl ?_
          | refine cw_false rfl ?_)
        refine x_call rfl rfl rfl trivial (as_Live (a := a) hA5 (by omega) (by omega)) ?_
        rintro _ _ ⟨rfl, rfl⟩
        refine ⟨trivial, ?_⟩
        rw [hp.live]
        repeat (first
          | refine x_move rfl rfl rfl trivial ?_
          | refine x_assign rfl rfl rfl trivial ?_
          | refine x_add rfl rfl rfl (wrap_i64 (by omega) (by omega)) rfl trivial ?_
          | refine x_sub_ rfl rfl rfl (wrap_i64 (by omega) (by omega)) rfl trivial ?_
          | refine x_sub_ rfl rfl rfl (wrap_u32 (by omega) (by omega)) rfl trivial ?_
          | refine x_add rfl rfl rfl (wrap_u32 (by omega) (by omega)) rfl trivial ?_
          | refine x_peqn rfl rfl rfl rfl trivial ?_
          | refine x_pnen rfl rfl rfl rfl trivial ?_
          | refine x_mul rfl rfl rfl (wrap_i64 (by omega) (by omega)) rfl trivial ?_
          | refine x_ibin rfl rfl rfl rfl rfl trivial ?_
          | refine x_neg_ rfl rfl (wrap_i64 (by omega) (by omega)) rfl trivial ?_
          | refine x_len rfl rfl (by assumption) rfl trivial ?_
          | refine x_pick_t rfl rfl rfl rfl trivial ?_
          | refine x_pick_f rfl rfl rfl rfl trivial ?_
          | refine x_not rfl rfl rfl trivial ?_
          | refine x_beq rfl rfl rfl rfl trivial ?_
          | refine x_bne rfl rfl rfl rfl trivial ?_
          | refine x_extract rfl rfl rfl rfl trivial ?_
          | refine x_nilCheck rfl rfl rfl trivial ?_
          | refine x_fieldAddr rfl rfl rfl rfl trivial ?_
          | refine x_skip trivial rfl rfl rfl ?_
          | refine x_indexAddr1 rfl rfl rfl (by assumption) (by omega) (by omega) rfl trivial ?_
          | refine x_indexAddr rfl rfl rfl (by assumption) (by omega) (by omega) rfl trivial ?_
          | refine x_nil ?_
          | refine cw_seq ?_
          | refine nw_seq ?_
          | refine nw_block ?_
          | refine cw_block ?_
          | refine cw_skip ?_
          | refine cw_region ?_
          | refine cw_exit rfl ?_
          | refine cw_true rfl ?_
          | refine cw_false rfl ?_)
        refine x_true 164 rfl (by simp) ?_
        repeat (first
          | refine x_move rfl rfl rfl trivial ?_
          | refine x_assign rfl rfl rfl trivial ?_
          | refine x_add rfl rfl rfl (wrap_i64 (by omega) (by omega)) rfl trivial ?_
          | refine x_sub_ rfl rfl rfl (wrap_i64 (by omega) (by omega)) rfl trivial ?_
          | refine x_sub_ rfl rfl rfl (wrap_u32 (by omega) (by omega)) rfl trivial ?_
          | refine x_add rfl rfl rfl (wrap_u32 (by omega) (by omega)) rfl trivial ?_
          | refine x_peqn rfl rfl rfl rfl trivial ?_
          | refine x_pnen rfl rfl rfl rfl trivial ?_
          | refine x_mul rfl rfl rfl (wrap_i64 (by omega) (by omega)) rfl trivial ?_
          | refine x_ibin rfl rfl rfl rfl rfl trivial ?_
          | refine x_neg_ rfl rfl (wrap_i64 (by omega) (by omega)) rfl trivial ?_
          | refine x_len rfl rfl (by assumption) rfl trivial ?_
          | refine x_pick_t rfl rfl rfl rfl trivial ?_
          | refine x_pick_f rfl rfl rfl rfl trivial ?_
          | refine x_not rfl rfl rfl trivial ?_
          | refine x_beq rfl rfl rfl rfl trivial ?_
          | refine x_bne rfl rfl rfl rfl trivial ?_
          | refine x_extract rfl rfl rfl rfl trivial ?_
          | refine x_nilCheck rfl rfl rfl trivial ?_
          | refine x_fieldAddr rfl rfl rfl rfl trivial ?_
          | refine x_skip trivial rfl rfl rfl ?_
          | refine x_indexAddr1 rfl rfl rfl (by assumption) (by omega) (by omega) rfl trivial ?_
          | refine x_indexAddr rfl rfl rfl (by assumption) (by omega) (by omega) rfl trivial ?_
          | refine x_nil ?_
          | refine cw_seq ?_
          | refine nw_seq ?_
          | refine nw_block ?_
          | refine cw_block ?_
          | refine cw_skip ?_
          | refine cw_region ?_
          | refine cw_exit rfl ?_
          | refine cw_true rfl ?_
          | refine cw_false rfl ?_)
        refine x_call rfl rfl rfl trivial (as_Free (a := a) hA5 hp.wf (by omega) (by omega)) ?_
        rintro _ _ ⟨rfl, rfl⟩
        refine ⟨trivial, ?_⟩
        rw [hp.live, hp.most]
        repeat (first
          | refine x_move rfl rfl rfl trivial ?_
          | refine x_assign rfl rfl rfl trivial ?_
          | refine x_add rfl rfl rfl (wrap_i64 (by omega) (by omega)) rfl trivial ?_
          | refine x_sub_ rfl rfl rfl (wrap_i64 (by omega) (by omega)) rfl trivial ?_
          | refine x_sub_ rfl rfl rfl (wrap_u32 (by omega) (by omega)) rfl trivial ?_
          | refine x_add rfl rfl rfl (wrap_u32 (by omega) (by omega)) rfl trivial ?_
          | refine x_peqn rfl rfl rfl rfl trivial ?_
          | refine x_pnen rfl rfl rfl rfl trivial ?_
          | refine x_mul rfl rfl rfl (wrap_i64 (by omega) (by omega)) rfl trivial ?_
          | refine x_ibin rfl rfl rfl rfl rfl trivial ?_
          | refine x_neg_ rfl rfl (wrap_i64 (by omega) (by omega)) rfl trivial ?_
          | refine x_len rfl rfl (by assumption) rfl trivial ?_
          | refine x_pick_t rfl rfl rfl rfl trivial ?_
          | refine x_pick_f rfl rfl rfl rfl trivial ?_
          | refine x_not rfl rfl rfl trivial ?_
          | refine x_beq rfl rfl rfl rfl trivial ?_
          | refine x_bne rfl rfl rfl rfl trivial ?_
          | refine x_extract rfl rfl rfl rfl trivial ?_
          | refine x_nilCheck rfl rfl rfl trivial ?_
          | refine x_fieldAddr rfl rfl rfl rfl trivial ?_
          | refine x_skip trivial rfl rfl rfl ?_
          | refine x_indexAddr1 rfl rfl rfl (by assumption) (by omega) (by omega) rfl trivial ?_
          | refine x_indexAddr rfl rfl rfl (by assumption) (by omega) (by omega) rfl trivial ?_
          | refine x_nil ?_
          | refine cw_seq ?_
          | refine nw_seq ?_
          | refine nw_block ?_
          | refine cw_block ?_
          | refine cw_skip ?_
          | refine cw_region ?_
          | refine cw_exit rfl ?_
          | refine cw_true rfl ?_
          | refine cw_false rfl ?_)
        refine x_true 172 rfl (by simp) ?_
        repeat (first
          | refine x_move rfl rfl rfl trivial ?_
          | refine x_assign rfl rfl rfl trivial ?_
          | refine x_add rfl rfl rfl (wrap_i64 (by omega) (by omega)) rfl trivial ?_
          | refine x_sub_ rfl rfl rfl (wrap_i64 (by omega) (by omega)) rfl trivial ?_
          | refine x_sub_ rfl rfl rfl (wrap_u32 (by omega) (by omega)) rfl trivial ?_
          | refine x_add rfl rfl rfl (wrap_u32 (by omega) (by omega)) rfl trivial ?_
          | refine x_peqn rfl rfl rfl rfl trivial ?_
          | refine x_pnen rfl rfl rfl rfl trivial ?_
          | refine x_mul rfl rfl rfl (wrap_i64 (by omega) (by omega)) rfl trivial ?_
          | refine x_ibin rfl rfl rfl rfl rfl trivial ?_
          | refine x_neg_ rfl rfl (wrap_i64 (by omega) (by omega)) rfl trivial ?_
          | refine x_len rfl rfl (by assumption) rfl trivial ?_
          | refine x_pick_t rfl rfl rfl rfl trivial ?_
          | refine x_pick_f rfl rfl rfl rfl trivial ?_
          | refine x_not rfl rfl rfl trivial ?_
          | refine x_beq rfl rfl rfl rfl trivial ?_
          | refine x_bne rfl rfl rfl rfl trivial ?_
          | refine x_extract rfl rfl rfl rfl trivial ?_
          | refine x_nilCheck rfl rfl rfl trivial ?_
          | refine x_fieldAddr rfl rfl rfl rfl trivial ?_
          | refine x_skip trivial rfl rfl rfl ?_
          | refine x_indexAddr1 rfl rfl rfl (by assumption) (by omega) (by omega) rfl trivial ?_
          | refine x_indexAddr rfl rfl rfl (by assumption) (by omega) (by omega) rfl trivial ?_
          | refine x_nil ?_
          | refine cw_seq ?_
          | refine nw_seq ?_
          | refine nw_block ?_
          | refine cw_block ?_
          | refine cw_skip ?_
          | refine cw_region ?_
          | refine cw_exit rfl ?_
          | refine cw_true rfl ?_
          | refine cw_false rfl ?_)
        refine x_call rfl rfl rfl trivial (awake5 _) ?_
        rintro _ Hz ⟨rfl, hkz⟩
        refine ⟨trivial, ?_⟩
        repeat (first
          | refine x_move rfl rfl rfl trivial ?_
          | refine x_assign rfl rfl rfl trivial ?_
          | refine x_add rfl rfl rfl (wrap_i64 (by omega) (by omega)) rfl trivial ?_
          | refine x_sub_ rfl rfl rfl (wrap_i64 (by omega) (by omega)) rfl trivial ?_
          | refine x_sub_ rfl rfl rfl (wrap_u32 (by omega) (by omega)) rfl trivial ?_
          | refine x_add rfl rfl rfl (wrap_u32 (by omega) (by omega)) rfl trivial ?_
          | refine x_peqn rfl rfl rfl rfl trivial ?_
          | refine x_pnen rfl rfl rfl rfl trivial ?_
          | refine x_mul rfl rfl rfl (wrap_i64 (by omega) (by omega)) rfl trivial ?_
          | refine x_ibin rfl rfl rfl rfl rfl trivial ?_
          | refine x_neg_ rfl rfl (wrap_i64 (by omega) (by omega)) rfl trivial ?_
          | refine x_len rfl rfl (by assumption) rfl trivial ?_
          | refine x_pick_t rfl rfl rfl rfl trivial ?_
          | refine x_pick_f rfl rfl rfl rfl trivial ?_
          | refine x_not rfl rfl rfl trivial ?_
          | refine x_beq rfl rfl rfl rfl trivial ?_
          | refine x_bne rfl rfl rfl rfl trivial ?_
          | refine x_extract rfl rfl rfl rfl trivial ?_
          | refine x_nilCheck rfl rfl rfl trivial ?_
          | refine x_fieldAddr rfl rfl rfl rfl trivial ?_
          | refine x_skip trivial rfl rfl rfl ?_
          | refine x_indexAddr1 rfl rfl rfl (by assumption) (by omega) (by omega) rfl trivial ?_
          | refine x_indexAddr rfl rfl rfl (by assumption) (by omega) (by omega) rfl trivial ?_
          | refine x_nil ?_
          | refine cw_seq ?_
          | refine nw_seq ?_
          | refine nw_block ?_
          | refine cw_block ?_
          | refine cw_skip ?_
          | refine cw_region ?_
          | refine cw_exit rfl ?_
          | refine cw_true rfl ?_
          | refine cw_false rfl ?_)
        exact cw_ret1 rfl rfl ⟨rfl, (hA5.keep0).non_trans hkz⟩
    · rw [if_neg hAm]
      repeat (first
        | refine x_move rfl rfl rfl trivial ?_
        | refine x_assign rfl rfl rfl trivial ?_
        | refine x_add rfl rfl rfl (wrap_i64 (by omega) (by omega)) rfl trivial ?_
        | refine x_sub_ rfl rfl rfl (wrap_i64 (by omega) (by omega)) rfl trivial ?_
        | refine x_sub_ rfl rfl rfl (wrap_u32 (by omega) (by omega)) rfl trivial ?_
        | refine x_add rfl rfl rfl (wrap_u32 (by omega) (by omega)) rfl trivial ?_
        | refine x_peqn rfl rfl rfl rfl trivial ?_
        | refine x_pnen rfl rfl rfl rfl trivial ?_
        | refine x_mul rfl rfl rfl (wrap_i64 (by omega) (by omega)) rfl trivial ?_
        | refine x_ibin rfl rfl rfl rfl rfl trivial ?_
        | refine x_neg_ rfl rfl (wrap_i64 (by omega) (by omega)) rfl trivial ?_
        | refine x_len rfl rfl (by assumption) rfl trivial ?_
        | refine x_pick_t rfl rfl rfl rfl trivial ?_
        | refine x_pick_f rfl rfl rfl rfl trivial ?_
        | refine x_not rfl rfl rfl trivial ?_
        | refine x_beq rfl rfl rfl rfl trivial ?_
        | refine x_bne rfl rfl rfl rfl trivial ?_
        | refine x_extract rfl rfl rfl rfl trivial ?_
        | refine x_nilCheck rfl rfl rfl trivial ?_
        | refine x_fieldAddr rfl rfl rfl rfl trivial ?_
        | refine x_skip trivial rfl rfl rfl ?_
        | refine x_indexAddr1 rfl rfl rfl (by assumption) (by omega) (by omega) rfl trivial ?_
        | refine x_indexAddr rfl rfl rfl (by assumption) (by omega) (by omega) rfl trivial ?_
        | refine x_nil ?_
        | refine cw_seq ?_
        | refine nw_seq ?_
        | refine nw_block ?_
        | refine cw_block ?_
        | refine cw_skip ?_
        | refine cw_region ?_
        | refine cw_exit rfl ?_
        | refine cw_true rfl ?_
        | refine cw_false rfl ?_)
      refine x_false 106 rfl (by simp; omega) ?_
      repeat (first
        | refine x_move rfl rfl rfl trivial ?_
        | refine x_assign rfl rfl rfl trivial ?_
        | refine x_add rfl rfl rfl (wrap_i64 (by omega) (by omega)) rfl trivial ?_
        | refine x_sub_ rfl rfl rfl (wrap_i64 (by omega) (by omega)) rfl trivial ?_
        | refine x_sub_ rfl rfl rfl (wrap_u32 (by omega) (by omega)) rfl trivial ?_
        | refine x_add rfl rfl rfl (wrap_u32 (by omega) (by omega)) rfl trivial ?_
        | refine x_peqn rfl rfl rfl rfl trivial ?_
        | refine x_pnen rfl rfl rfl rfl trivial ?_
        | refine x_mul rfl rfl rfl (wrap_i64 (by omega) (by omega)) rfl trivial ?_
        | refine x_ibin rfl rfl rfl rfl rfl trivial ?_
        | refine x_neg_ rfl rfl (wrap_i64 (by omega) (by omega)) rfl trivial ?_
        | refine x_len rfl rfl (by assumption) rfl trivial ?_
        | refine x_pick_t rfl rfl rfl rfl trivial ?_
        | refine x_pick_f rfl rfl rfl rfl trivial ?_
        | refine x_not rfl rfl rfl trivial ?_
        | refine x_beq rfl rfl rfl rfl trivial ?_
        | refine x_bne rfl rfl rfl rfl trivial ?_
        | refine x_extract rfl rfl rfl rfl trivial ?_
        | refine x_nilCheck rfl rfl rfl trivial ?_
        | refine x_fieldAddr rfl rfl rfl rfl trivial ?_
        | refine x_skip trivial rfl rfl rfl ?_
        | refine x_indexAddr1 rfl rfl rfl (by assumption) (by omega) (by omega) rfl trivial ?_
        | refine x_indexAddr rfl rfl rfl (by assumption) (by omega) (by omega) rfl trivial ?_
        | refine x_nil ?_
        | refine cw_seq ?_
        | refine nw_seq ?_
        | refine nw_block ?_
        | refine cw_block ?_
        | refine cw_skip ?_
        | refine cw_region ?_
        | refine cw_exit rfl ?_
        | refine cw_true rfl ?_
        | refine cw_false rfl ?_)
      refine cw_loop (fun s : Nat => [(0, va), (1, .int .i64 W), (2, .int .i64 A), (3, .int .u64 w), (9, ptr b 0), (17, .int .i64 s)]) (fun s H' => H5 = H' ∧ s ≤ zs.length) (fun s => zs.length - s) 0 (by repeat (first | exact True.intro | refine ⟨rfl, ?_⟩)) ⟨rfl, Nat.zero_le _⟩ ?_
      rintro j _ ⟨rfl, hj⟩
      repeat (first
        | refine x_move rfl rfl rfl trivial ?_
        | refine x_assign rfl rfl rfl trivial ?_
        | refine x_add rfl rfl rfl (wrap_i64 (by omega) (by omega)) rfl trivial ?_
        | refine x_sub_ rfl rfl rfl (wrap_i64 (by omega) (by omega)) rfl trivial ?_
        | refine x_sub_ rfl rfl rfl (wrap_u32 (by omega) (by omega)) rfl trivial ?_
        | refine x_add rfl rfl rfl (wrap_u32 (by omega) (by omega)) rfl trivial ?_
        | refine x_peqn rfl rfl rfl rfl trivial ?_
        | refine x_pnen rfl rfl rfl rfl trivial ?_
        | refine x_mul rfl rfl rfl (wrap_i64 (by omega) (by omega)) rfl trivial ?_
        | refine x_ibin rfl rfl rfl rfl rfl trivial ?_
        | refine x_neg_ rfl rfl (wrap_i64 (by omega) (by omega)) rfl trivial ?_
        | refine x_len rfl rfl (by assumption) rfl trivial ?_
        | refine x_pick_t rfl rfl rfl rfl trivial ?_
        | refine x_pick_f rfl rfl rfl rfl trivial ?_
        | refine x_not rfl rfl rfl trivial ?_
        | refine x_beq rfl rfl rfl rfl trivial ?_
        | refine x_bne rfl rfl rfl rfl trivial ?_
        | refine x_extract rfl rfl rfl rfl trivial ?_
        | refine x_nilCheck rfl rfl rfl trivial ?_
        | refine x_fieldAddr rfl rfl rfl rfl trivial ?_
        | refine x_skip trivial rfl rfl rfl ?_
        | refine x_indexAddr1 rfl rfl rfl (by assumption) (by omega) (by omega) rfl trivial ?_
        | refine x_indexAddr rfl rfl rfl (by assumption) (by omega) (by omega) rfl trivial ?_
        | refine x_nil ?_
        | refine cw_seq ?_
        | refine nw_seq ?_
        | refine nw_block ?_
        | refine cw_block ?_
        | refine cw_skip ?_
        | refine cw_region ?_
        | refine cw_exit rfl ?_
        | refine cw_true rfl ?_
        | refine cw_false rfl ?_)
      refine cw_cond rfl (fun hlt5 => ?_) (fun hlt5 => ?_) <;> (try simp at hlt5)
      · obtain ⟨t, ht⟩ : ∃ t, zs[j]? = some t := ⟨_, List.getElem?_eq_getElem hlt5⟩
        have hct := hA5.keep0.cel (hA j t ht) (fun h => h)
        have hsz := sz_at ht
        have bsz := sz_bd zs j
        repeat (first
          | refine x_move rfl rfl rfl trivial ?_
          | refine x_assign rfl rfl rfl trivial ?_
          | refine x_add rfl rfl rfl (wrap_i64 (by omega) (by omega)) rfl trivial ?_
          | refine x_sub_ rfl rfl rfl (wrap_i64 (by omega) (by omega)) rfl trivial ?_
          | refine x_sub_ rfl rfl rfl (wrap_u32 (by omega) (by omega)) rfl trivial ?_
          | refine x_add rfl rfl rfl (wrap_u32 (by omega) (by omega)) rfl trivial ?_
          | refine x_peqn rfl rfl rfl rfl trivial ?_
          | refine x_pnen rfl rfl rfl rfl trivial ?_
          | refine x_mul rfl rfl rfl (wrap_i64 (by omega) (by omega)) rfl trivial ?_
          | refine x_ibin rfl rfl rfl rfl rfl trivial ?_
          | refine x_neg_ rfl rfl (wrap_i64 (by omega) (by omega)) rfl trivial ?_
          | refine x_len rfl rfl (by assumption) rfl trivial ?_
          | refine x_pick_t rfl rfl rfl rfl trivial ?_
          | refine x_pick_f rfl rfl rfl rfl trivial ?_
          | refine x_not rfl rfl rfl trivial ?_
          | refine x_beq rfl rfl rfl rfl trivial ?_
          | refine x_bne rfl rfl rfl rfl trivial ?_
          | refine x_extract rfl rfl rfl rfl trivial ?_
          | refine x_nilCheck rfl rfl rfl trivial ?_
          | refine x_fieldAddr rfl rfl rfl rfl trivial ?_
          | refine x_skip trivial rfl rfl rfl ?_
          | refine x_indexAddr1 rfl rfl rfl (by assumption) (by omega) (by omega) rfl trivial ?_
          | refine x_indexAddr rfl rfl rfl (by assumption) (by omega) (by omega) rfl trivial ?_
          | refine x_nil ?_
          | refine cw_seq ?_
          | refine nw_seq ?_
          | refine nw_block ?_
          | refine cw_block ?_
          | refine cw_skip ?_
          | refine cw_region ?_
          | refine cw_exit rfl ?_
          | refine cw_true rfl ?_
          | refine cw_false rfl ?_)
        refine cw_loop (fun s : Nat => [(0, va), (1, .int .i64 W), (2, .int .i64 A), (3, .int .u64 w), (9, ptr b 0), (17, .int .i64 j), (18, .int .i64 s)]) (fun s H' => H5 = H' ∧ s ≤ sz zs j) (fun s => sz zs j - s) 0 (by repeat (first | exact True.intro | refine ⟨rfl, ?_⟩)) ⟨rfl, Nat.zero_le _⟩ ?_
        rintro k _ ⟨rfl, hk⟩
        repeat (first
          | refine x_move rfl rfl rfl trivial ?_
          | refine x_assign rfl rfl rfl trivial ?_
          | refine x_add rfl rfl rfl (wrap_i64 (by omega) (by omega)) rfl trivial ?_
          | refine x_sub_ rfl rfl rfl (wrap_i64 (by omega) (by omega)) rfl trivial ?_
          | refine x_sub_ rfl rfl rfl (wrap_u32 (by omega) (by omega)) rfl trivial ?_
          | refine x_add rfl rfl rfl (wrap_u32 (by omega) (by omega)) rfl trivial ?_
          | refine x_peqn rfl rfl rfl rfl trivial ?_
          | refine x_pnen rfl rfl rfl rfl trivial ?_
          | refine x_mul rfl rfl rfl (wrap_i64 (by omega) (by omega)) rfl trivial ?_
          | refine x_ibin rfl rfl rfl rfl rfl trivial ?_
          | refine x_neg_ rfl rfl (wrap_i64 (by omega) (by omega)) rfl trivial ?_
          | refine x_len rfl rfl (by assumption) rfl trivial ?_
          | refine x_pick_t rfl rfl rfl rfl trivial ?_
          | refine x_pick_f rfl rfl rfl rfl trivial ?_
          | refine x_not rfl rfl rfl trivial ?_
          | refine x_beq rfl rfl rfl rfl trivial ?_
          | refine x_bne rfl rfl rfl rfl trivial ?_
          | refine x_extract rfl rfl rfl rfl trivial ?_
          | refine x_nilCheck rfl rfl rfl trivial ?_
          | refine x_fieldAddr rfl rfl rfl rfl trivial ?_
          | refine x_skip trivial rfl rfl rfl ?_
          | refine x_indexAddr1 rfl rfl rfl (by assumption) (by omega) (by omega) rfl trivial ?_
          | refine x_indexAddr rfl rfl rfl (by assumption) (by omega) (by omega) rfl trivial ?_
          | refine x_nil ?_
          | refine cw_seq ?_
          | refine nw_seq ?_
          | refine nw_block ?_
          | refine cw_block ?_
          | refine cw_skip ?_
          | refine cw_region ?_
          | refine cw_exit rfl ?_
          | refine cw_true rfl ?_
          | refine cw_false rfl ?_)
        refine x_load rfl rfl (hpmt (hct)) rfl trivial ?_
        refine x_call rfl rfl rfl trivial (law_LowF t 65 (by omega) H5) ?_
        rintro _ _ ⟨rfl, rfl⟩
        refine ⟨trivial, ?_⟩
        rw [hsz]
        repeat (first
          | refine x_move rfl rfl rfl trivial ?_
          | refine x_assign rfl rfl rfl trivial ?_
          | refine x_add rfl rfl rfl (wrap_i64 (by omega) (by omega)) rfl trivial ?_
          | refine x_sub_ rfl rfl rfl (wrap_i64 (by omega) (by omega)) rfl trivial ?_
          | refine x_sub_ rfl rfl rfl (wrap_u32 (by omega) (by omega)) rfl trivial ?_
          | refine x_add rfl rfl rfl (wrap_u32 (by omega) (by omega)) rfl trivial ?_
          | refine x_peqn rfl rfl rfl rfl trivial ?_
          | refine x_pnen rfl rfl rfl rfl trivial ?_
          | refine x_mul rfl rfl rfl (wrap_i64 (by omega) (by omega)) rfl trivial ?_
          | refine x_ibin rfl rfl rfl rfl rfl trivial ?_
          | refine x_neg_ rfl rfl (wrap_i64 (by omega) (by omega)) rfl trivial ?_
          | refine x_len rfl rfl (by assumption) rfl trivial ?_
          | refine x_pick_t rfl rfl rfl rfl trivial ?_
          | refine x_pick_f rfl rfl rfl rfl trivial ?_
          | refine x_not rfl rfl rfl trivial ?_
          | refine x_beq rfl rfl rfl rfl trivial ?_
          | refine x_bne rfl rfl rfl rfl trivial ?_
          | refine x_extract rfl rfl rfl rfl trivial ?_
          | refine x_nilCheck rfl rfl rfl trivial ?_
          | refine x_fieldAddr rfl rfl rfl rfl trivial ?_
          | refine x_skip trivial rfl rfl rfl ?_
          | refine x_indexAddr1 rfl rfl rfl (by assumption) (by omega) (by omega) rfl trivial ?_
          | refine x_indexAddr rfl rfl rfl (by assumption) (by omega) (by omega) rfl trivial ?_
          | refine x_nil ?_
          | refine cw_seq ?_
          | refine nw_seq ?_
          | refine nw_block ?_
          | refine cw_block ?_
          | refine cw_skip ?_
          | refine cw_region ?_
          | refine cw_exit rfl ?_
          | refine cw_true rfl ?_
          | refine cw_false rfl ?_)
        refine cw_cond rfl (fun hlt6 => ?_) (fun hlt6 => ?_) <;> (try simp at hlt6)
        · obtain ⟨r1, r2⟩ := hp.at_ j k hlt5 hlt6
          repeat (first
            | refine x_move rfl rfl rfl trivial ?_
            | refine x_assign rfl rfl rfl trivial ?_
            | refine x_add rfl rfl rfl (wrap_i64 (by omega) (by omega)) rfl trivial ?_
            | refine x_sub_ rfl rfl rfl (wrap_i64 (by omega) (by omega)) rfl trivial ?_
            | refine x_sub_ rfl rfl rfl (wrap_u32 (by omega) (by omega)) rfl trivial ?_
            | refine x_add rfl rfl rfl (wrap_u32 (by omega) (by omega)) rfl trivial ?_
            | refine x_peqn rfl rfl rfl rfl trivial ?_
            | refine x_pnen rfl rfl rfl rfl trivial ?_
            | refine x_mul rfl rfl rfl (wrap_i64 (by omega) (by omega)) rfl trivial ?_
            | refine x_ibin rfl rfl rfl rfl rfl trivial ?_
            | refine x_neg_ rfl rfl (wrap_i64 (by omega) (by omega)) rfl trivial ?_
            | refine x_len rfl rfl (by assumption) rfl trivial ?_
            | refine x_pick_t rfl rfl rfl rfl trivial ?_
            | refine x_pick_f rfl rfl rfl rfl trivial ?_
            | refine x_not rfl rfl rfl trivial ?_
            | refine x_beq rfl rfl rfl rfl trivial ?_
            | refine x_bne rfl rfl rfl rfl trivial ?_
            | refine x_extract rfl rfl rfl rfl trivial ?_
            | refine x_nilCheck rfl rfl rfl trivial ?_
            | refine x_fieldAddr rfl rfl rfl rfl trivial ?_
            | refine x_skip trivial rfl rfl rfl ?_
            | refine x_indexAddr1 rfl rfl rfl (by assumption) (by omega) (by omega) rfl trivial ?_
            | refine x_indexAddr rfl rfl rfl (by assumption) (by omega) (by omega) rfl trivial ?_
            | refine x_nil ?_
            | refine cw_seq ?_
            | refine nw_seq ?_
            | refine nw_block ?_
            | refine cw_block ?_
            | refine cw_skip ?_
            | refine cw_region ?_
            | refine cw_exit rfl ?_
            | refine cw_true rfl ?_
            | refine cw_false rfl ?_)
          refine x_conv_int rfl rfl rfl trivial ?_
          repeat (first
            | refine x_move rfl rfl rfl trivial ?_
            | refine x_assign rfl rfl rfl trivial ?_
            | refine x_add rfl rfl rfl (wrap_i64 (by omega) (by omega)) rfl trivial ?_
            | refine x_sub_ rfl rfl rfl (wrap_i64 (by omega) (by omega)) rfl trivial ?_
            | refine x_sub_ rfl rfl rfl (wrap_u32 (by omega) (by omega)) rfl trivial ?_
            | refine x_add rfl rfl rfl (wrap_u32 (by omega) (by omega)) rfl trivial ?_
            | refine x_peqn rfl rfl rfl rfl trivial ?_
            | refine x_pnen rfl rfl rfl rfl trivial ?_
            | refine x_mul rfl rfl rfl (wrap_i64 (by omega) (by omega)) rfl trivial ?_
            | refine x_ibin rfl rfl rfl rfl rfl trivial ?_
            | refine x_neg_ rfl rfl (wrap_i64 (by omega) (by omega)) rfl trivial ?_
            | refine x_len rfl rfl (by assumption) rfl trivial ?_
            | refine x_pick_t rfl rfl rfl rfl trivial ?_
            | refine x_pick_f rfl rfl rfl rfl trivial ?_
            | refine x_not rfl rfl rfl trivial ?_
            | refine x_beq rfl rfl rfl rfl trivial ?_
            | refine x_bne rfl rfl rfl rfl trivial ?_
            | refine x_extract rfl rfl rfl rfl trivial ?_
            | refine x_nilCheck rfl rfl rfl trivial ?_
            | refine x_fieldAddr rfl rfl rfl rfl trivial ?_
            | refine x_skip trivial rfl rfl rfl ?_
            | refine x_indexAddr1 rfl rfl rfl (by assumption) (by omega) (by omega) rfl trivial ?_
            | refine x_indexAddr rfl rfl rfl (by assumption) (by omega) (by omega) rfl trivial ?_
            | refine x_nil ?_
            | refine cw_seq ?_
            | refine nw_seq ?_
            | refine nw_block ?_
            | refine cw_block ?_
            | refine cw_skip ?_
            | refine cw_region ?_
            | refine cw_exit rfl ?_
            | refine cw_true rfl ?_
            | refine cw_false rfl ?_)
          refine x_split 137 rfl (fun hjW => ?_) (fun hjW => ?_) <;> (try simp at hjW)
          · repeat (first
              | refine x_move rfl rfl rfl trivial ?_
              | refine x_assign rfl rfl rfl trivial ?_
              | refine x_add rfl rfl rfl (wrap_i64 (by omega) (by omega)) rfl trivial ?_
              | refine x_sub_ rfl rfl rfl (wrap_i64 (by omega) (by omega)) rfl trivial ?_
              | refine x_sub_ rfl rfl rfl (wrap_u32 (by omega) (by omega)) rfl trivial ?_
              | refine x_add rfl rfl rfl (wrap_u32 (by omega) (by omega)) rfl trivial ?_
              | refine x_peqn rfl rfl rfl rfl trivial ?_
              | refine x_pnen rfl rfl rfl rfl trivial ?_
              | refine x_mul rfl rfl rfl (wrap_i64 (by omega) (by omega)) rfl trivial ?_
              | refine x_ibin rfl rfl rfl rfl rfl trivial ?_
              | refine x_neg_ rfl rfl (wrap_i64 (by omega) (by omega)) rfl trivial ?_
              | refine x_len rfl rfl (by assumption) rfl trivial ?_
              | refine x_pick_t rfl rfl rfl rfl trivial ?_
              | refine x_pick_f rfl rfl rfl rfl trivial ?_
              | refine x_not rfl rfl rfl trivial ?_
              | refine x_beq rfl rfl rfl rfl trivial ?_
              | refine x_bne rfl rfl rfl rfl trivial ?_
              | refine x_extract rfl rfl rfl rfl trivial ?_
              | refine x_nilCheck rfl rfl rfl trivial ?_
              | refine x_fieldAddr rfl rfl rfl rfl trivial ?_
              | refine x_skip trivial rfl rfl rfl ?_
              | refine x_indexAddr1 rfl rfl rfl (by assumption) (by omega) (by omega) rfl trivial ?_
              | refine x_indexAddr rfl rfl rfl (by assumption) (by omega) (by omega) rfl trivial ?_
              | refine x_nil ?_
              | refine cw_seq ?_
              | refine nw_seq ?_
              | refine nw_block ?_
              | refine cw_block ?_
              | refine cw_skip ?_
              | refine cw_region ?_
              | refine cw_exit rfl ?_
              | refine cw_true rfl ?_
              | refine cw_false rfl ?_)
            refine cw_cond rfl (fun hkA => ?_) (fun hkA => ?_) <;> (try simp at hkA)
            · rw [if_pos (show j = W ∧ k = A by omega)] at r2
              repeat (first
                | refine x_move rfl rfl rfl trivial ?_
                | refine x_assign rfl rfl rfl trivial ?_
                | refine x_add rfl rfl rfl (wrap_i64 (by omega) (by omega)) rfl trivial ?_
                | refine x_sub_ rfl rfl rfl (wrap_i64 (by omega) (by omega)) rfl trivial ?_
                | refine x_sub_ rfl rfl rfl (wrap_u32 (by omega) (by omega)) rfl trivial ?_
                | refine x_add rfl rfl rfl (wrap_u32 (by omega) (by omega)) rfl trivial ?_
                | refine x_peqn rfl rfl rfl rfl trivial ?_
                | refine x_pnen rfl rfl rfl rfl trivial ?_
                | refine x_mul rfl rfl rfl (wrap_i64 (by omega) (by omega)) rfl trivial ?_
                | refine x_ibin rfl rfl rfl rfl rfl trivial ?_
                | refine x_neg_ rfl rfl (wrap_i64 (by omega) (by omega)) rfl trivial ?_
                | refine x_len rfl rfl (by assumption) rfl trivial ?_
                | refine x_pick_t rfl rfl rfl rfl trivial ?_
                | refine x_pick_f rfl rfl rfl rfl trivial ?_
                | refine x_not rfl rfl rfl trivial ?_
                | refine x_beq rfl rfl rfl rfl trivial ?_
                | refine x_bne rfl rfl rfl rfl trivial ?_
                | refine x_extract rfl rfl rfl rfl trivial ?_
                | refine x_nilCheck rfl rfl rfl trivial ?_
                | refine x_fieldAddr rfl rfl rfl rfl trivial ?_
                | refine x_skip trivial rfl rfl rfl ?_
                | refine x_indexAddr1 rfl rfl rfl (by assumption) (by omega) (by omega) rfl trivial ?_
                | refine x_indexAddr rfl rfl rfl (by assumption) (by omega) (by omega) rfl trivial ?_
                | refine x_nil ?_
                | refine cw_seq ?_
                | refine nw_seq ?_
                | refine nw_block ?_
                | refine cw_block ?_
                | refine cw_skip ?_
                | refine cw_region ?_
                | refine cw_exit rfl ?_
                | refine cw_true rfl ?_
                | refine cw_false rfl ?_)
              refine x_conv_int rfl rfl rfl trivial ?_
              rw [wrap_u32 (by omega) (by omega), show (j : Int) + 1 = ((j + 1 : Nat) : Int) by omega]
              repeat (first
                | refine x_move rfl rfl rfl trivial ?_
                | refine x_assign rfl rfl rfl trivial ?_
                | refine x_add rfl rfl rfl (wrap_i64 (by omega) (by omega)) rfl trivial ?_
                | refine x_sub_ rfl rfl rfl (wrap_i64 (by omega) (by omega)) rfl trivial ?_
                | refine x_sub_ rfl rfl rfl (wrap_u32 (by omega) (by omega)) rfl trivial ?_
                | refine x_add rfl rfl rfl (wrap_u32 (by omega) (by omega)) rfl trivial ?_
                | refine x_peqn rfl rfl rfl rfl trivial ?_
                | refine x_pnen rfl rfl rfl rfl trivial ?_
                | refine x_mul rfl rfl rfl (wrap_i64 (by omega) (by omega)) rfl trivial ?_
                | refine x_ibin rfl rfl rfl rfl rfl trivial ?_
                | refine x_neg_ rfl rfl (wrap_i64 (by omega) (by omega)) rfl trivial ?_
                | refine x_len rfl rfl (by assumption) rfl trivial ?_
                | refine x_pick_t rfl rfl rfl rfl trivial ?_
                | refine x_pick_f rfl rfl rfl rfl trivial ?_
                | refine x_not rfl rfl rfl trivial ?_
                | refine x_beq rfl rfl rfl rfl trivial ?_
                | refine x_bne rfl rfl rfl rfl trivial ?_
                | refine x_extract rfl rfl rfl rfl trivial ?_
                | refine x_nilCheck rfl rfl rfl trivial ?_
                | refine x_fieldAddr rfl rfl rfl rfl trivial ?_
                | refine x_skip trivial rfl rfl rfl ?_
                | refine x_indexAddr1 rfl rfl rfl (by assumption) (by omega) (by omega) rfl trivial ?_
                | refine x_indexAddr rfl rfl rfl (by assumption) (by omega) (by omega) rfl trivial ?_
                | refine x_nil ?_
                | refine cw_seq ?_
                | refine nw_seq ?_
                | refine nw_block ?_
                | refine cw_block ?_
                | refine cw_skip ?_
                | refine cw_region ?_
                | refine cw_exit rfl ?_
                | refine cw_true rfl ?_
                | refine cw_false rfl ?_)
              refine x_call rfl rfl rfl trivial (as_Get (a := a) (h := j + 1) (i := k) hA5 (by omega) (by omega)) ?_
              rintro _ _ ⟨rfl, rfl⟩
              refine ⟨trivial, ?_⟩
              rw [r1, r2]
              repeat (first
                | refine x_move rfl rfl rfl trivial ?_
                | refine x_assign rfl rfl rfl trivial ?_
                | refine x_add rfl rfl rfl (wrap_i64 (by omega) (by omega)) rfl trivial ?_
                | refine x_sub_ rfl rfl rfl (wrap_i64 (by omega) (by omega)) rfl trivial ?_
                | refine x_sub_ rfl rfl rfl (wrap_u32 (by omega) (by omega)) rfl trivial ?_
                | refine x_add rfl rfl rfl (wrap_u32 (by omega) (by omega)) rfl trivial ?_
                | refine x_peqn rfl rfl rfl rfl trivial ?_
                | refine x_pnen rfl rfl rfl rfl trivial ?_
                | refine x_mul rfl rfl rfl (wrap_i64 (by omega) (by omega)) rfl trivial ?_
                | refine x_ibin rfl rfl rfl rfl rfl trivial ?_
                | refine x_neg_ rfl rfl (wrap_i64 (by omega) (by omega)) rfl trivial ?_
                | refine x_len rfl rfl (by assumption) rfl trivial ?_
                | refine x_pick_t rfl rfl rfl rfl trivial ?_
                | refine x_pick_f rfl rfl rfl rfl trivial ?_
                | refine x_not rfl rfl rfl trivial ?_
                | refine x_beq rfl rfl rfl rfl trivial ?_
                | refine x_bne rfl rfl rfl rfl trivial ?_
                | refine x_extract rfl rfl rfl rfl trivial ?_
                | refine x_nilCheck rfl rfl rfl trivial ?_
                | refine x_fieldAddr rfl rfl rfl rfl trivial ?_
                | refine x_skip trivial rfl rfl rfl ?_
                | refine x_indexAddr1 rfl rfl rfl (by assumption) (by omega) (by omega) rfl trivial ?_
                | refine x_indexAddr rfl rfl rfl (by assumption) (by omega) (by omega) rfl trivial ?_
                | refine x_nil ?_
                | refine cw_seq ?_
                | refine nw_seq ?_
                | refine nw_block ?_
                | refine cw_block ?_
                | refine cw_skip ?_
                | refine cw_region ?_
                | refine cw_exit rfl ?_
                | refine cw_true rfl ?_
                | refine cw_false rfl ?_)
              refine x_false 155 rfl (by simp [wd]) ?_
              repeat (first
                | refine x_move rfl rfl rfl trivial ?_
                | refine x_assign rfl rfl rfl trivial ?_
                | refine x_add rfl rfl rfl (wrap_i64 (by omega) (by omega)) rfl trivial ?_
                | refine x_sub_ rfl rfl rfl (wrap_i64 (by omega) (by omega)) rfl trivial ?_
                | refine x_sub_ rfl rfl rfl (wrap_u32 (by omega) (by omega)) rfl trivial ?_
                | refine x_add rfl rfl rfl (wrap_u32 (by omega) (by omega)) rfl trivial ?_
                | refine x_peqn rfl rfl rfl rfl trivial ?_
                | refine x_pnen rfl rfl rfl rfl trivial ?_
                | refine x_mul rfl rfl rfl (wrap_i64 (by omega) (by omega)) rfl trivial ?_
                | refine x_ibin rfl rfl rfl rfl rfl trivial ?_
                | refine x_neg_ rfl rfl (wrap_i64 (by omega) (by omega)) rfl trivial ?_
                | refine x_len rfl rfl (by assumption) rfl trivial ?_
                | refine x_pick_t rfl rfl rfl rfl trivial ?_
                | refine x_pick_f rfl rfl rfl rfl trivial ?_
                | refine x_not rfl rfl rfl trivial ?_
                | refine x_beq rfl rfl rfl rfl trivial ?_
                | refine x_bne rfl rfl rfl rfl trivial ?_
                | refine x_extract rfl rfl rfl rfl trivial ?_
                | refine x_nilCheck rfl rfl rfl trivial ?_
                | refine x_fieldAddr rfl rfl rfl rfl trivial ?_
                | refine x_skip trivial rfl rfl rfl ?_
                | refine x_indexAddr1 rfl rfl rfl (by assumption) (by omega) (by omega) rfl trivial ?_
                | refine x_indexAddr rfl rfl rfl (by assumption) (by omega) (by omega) rfl trivial ?_
                | refine x_nil ?_
                | refine cw_seq ?_
                | refine nw_seq ?_
                | refine nw_block ?_
                | refine cw_block ?_
                | refine cw_skip ?_
                | refine cw_region ?_
                | refine cw_exit rfl ?_
                | refine cw_true rfl ?_
                | refine cw_false rfl ?_)
              exact nw_round (k + 1) (by repeat (first | exact True.intro | refine ⟨rfl, ?_⟩)) ⟨rfl, by show k + 1 ≤ _; omega⟩ (by show sz zs j - (k + 1) < sz zs j - k; omega)
            · rw [if_neg (show ¬ (j = W ∧ k = A) by omega)] at r2
              repeat (first
                | refine x_move rfl rfl rfl trivial ?_
                | refine x_assign rfl rfl rfl trivial ?_
                | refine x_add rfl rfl rfl (wrap_i64 (by omega) (by omega)) rfl trivial ?_
                | refine x_sub_ rfl rfl rfl (wrap_i64 (by omega) (by omega)) rfl trivial ?_
                | refine x_sub_ rfl rfl rfl (wrap_u32 (by omega) (by omega)) rfl trivial ?_
                | refine x_add rfl rfl rfl (wrap_u32 (by omega) (by omega)) rfl trivial ?_
                | refine x_peqn rfl rfl rfl rfl trivial ?_
                | refine x_pnen rfl rfl rfl rfl trivial ?_
                | refine x_mul rfl rfl rfl (wrap_i64 (by omega) (by omega)) rfl trivial ?_
                | refine x_ibin rfl rfl rfl rfl rfl trivial ?_
                | refine x_neg_ rfl rfl (wrap_i64 (by omega) (by omega)) rfl trivial ?_
                | refine x_len rfl rfl (by assumption) rfl trivial ?_
                | refine x_pick_t rfl rfl rfl rfl trivial ?_
                | refine x_pick_f rfl rfl rfl rfl trivial ?_
                | refine x_not rfl rfl rfl trivial ?_
                | refine x_beq rfl rfl rfl rfl trivial ?_
                | refine x_bne rfl rfl rfl rfl trivial ?_
                | refine x_extract rfl rfl rfl rfl trivial ?_
                | refine x_nilCheck rfl rfl rfl trivial ?_
                | refine x_fieldAddr rfl rfl rfl rfl trivial ?_
                | refine x_skip trivial rfl rfl rfl ?_
                | refine x_indexAddr1 rfl rfl rfl (by assumption) (by omega) (by omega) rfl trivial ?_
                | refine x_indexAddr rfl rfl rfl (by assumption) (by omega) (by omega) rfl trivial ?_
                | refine x_nil ?_
                | refine cw_seq ?_
                | refine nw_seq ?_
                | refine nw_block ?_
                | refine cw_block ?_
                | refine cw_skip ?_
                | refine cw_region ?_
                | refine cw_exit rfl ?_
                | refine cw_true rfl ?_
                | refine cw_false rfl ?_)
              refine x_conv_int rfl rfl rfl trivial ?_
              rw [wrap_u32 (by omega) (by omega), show (j : Int) + 1 = ((j + 1 : Nat) : Int) by omega]
              repeat (first
                | refine x_move rfl rfl rfl trivial ?_
                | refine x_assign rfl rfl rfl trivial ?_
                | refine x_add rfl rfl rfl (wrap_i64 (by omega) (by omega)) rfl trivial ?_
                | refine x_sub_ rfl rfl rfl (wrap_i64 (by omega) (by omega)) rfl trivial ?_
                | refine x_sub_ rfl rfl rfl (wrap_u32 (by omega) (by omega)) rfl trivial ?_
                | refine x_add rfl rfl rfl (wrap_u32 (by omega) (by omega)) rfl trivial ?_
                | refine x_peqn rfl rfl rfl rfl trivial ?_
                | refine x_pnen rfl rfl rfl rfl trivial ?_
                | refine x_mul rfl rfl rfl (wrap_i64 (by omega) (by omega)) rfl trivial ?_
                | refine x_ibin rfl rfl rfl rfl rfl trivial ?_
                | refine x_neg_ rfl rfl (wrap_i64 (by omega) (by omega)) rfl trivial ?_
                | refine x_len rfl rfl (by assumption) rfl trivial ?_
                | refine x_pick_t rfl rfl rfl rfl trivial ?_
                | refine x_pick_f rfl rfl rfl rfl trivial ?_
                | refine x_not rfl rfl rfl trivial ?_
                | refine x_beq rfl rfl rfl rfl trivial ?_
                | refine x_bne rfl rfl rfl rfl trivial ?_
                | refine x_extract rfl rfl rfl rfl trivial ?_
                | refine x_nilCheck rfl rfl rfl trivial ?_
                | refine x_fieldAddr rfl rfl rfl rfl trivial ?_
                | refine x_skip trivial rfl rfl rfl ?_
                | refine x_indexAddr1 rfl rfl rfl (by assumption) (by omega) (by omega) rfl trivial ?_
                | refine x_indexAddr rfl rfl rfl (by assumption) (by omega) (by omega) rfl trivial ?_
                | refine x_nil ?_
                | refine cw_seq ?_
                | refine nw_seq ?_
                | refine nw_block ?_
                | refine cw_block ?_
                | refine cw_skip ?_
                | refine cw_region ?_
                | refine cw_exit rfl ?_
                | refine cw_true rfl ?_
                | refine cw_false rfl ?_)
              refine x_call rfl rfl rfl trivial (as_Get (a := a) (h := j + 1) (i := k) hA5 (by omega) (by omega)) ?_
              rintro _ _ ⟨rfl, rfl⟩
              refine ⟨trivial, ?_⟩
              rw [r1, r2]
              repeat (first
                | refine x_move rfl rfl rfl trivial ?_
                | refine x_assign rfl rfl rfl trivial ?_
                | refine x_add rfl rfl rfl (wrap_i64 (by omega) (by omega)) rfl trivial ?_
                | refine x_sub_ rfl rfl rfl (wrap_i64 (by omega) (by omega)) rfl trivial ?_
                | refine x_sub_ rfl rfl rfl (wrap_u32 (by omega) (by omega)) rfl trivial ?_
                | refine x_add rfl rfl rfl (wrap_u32 (by omega) (by omega)) rfl trivial ?_
                | refine x_peqn rfl rfl rfl rfl trivial ?_
                | refine x_pnen rfl rfl rfl rfl trivial ?_
                | refine x_mul rfl rfl rfl (wrap_i64 (by omega) (by omega)) rfl trivial ?_
                | refine x_ibin rfl rfl rfl rfl rfl trivial ?_
                | refine x_neg_ rfl rfl (wrap_i64 (by omega) (by omega)) rfl trivial ?_
                | refine x_len rfl rfl (by assumption) rfl trivial ?_
                | refine x_pick_t rfl rfl rfl rfl trivial ?_
                | refine x_pick_f rfl rfl rfl rfl trivial ?_
                | refine x_not rfl rfl rfl trivial ?_
                | refine x_beq rfl rfl rfl rfl trivial ?_
                | refine x_bne rfl rfl rfl rfl trivial ?_
                | refine x_extract rfl rfl rfl rfl trivial ?_
                | refine x_nilCheck rfl rfl rfl trivial ?_
                | refine x_fieldAddr rfl rfl rfl rfl trivial ?_
                | refine x_skip trivial rfl rfl rfl ?_
                | refine x_indexAddr1 rfl rfl rfl (by assumption) (by omega) (by omega) rfl trivial ?_
                | refine x_indexAddr rfl rfl rfl (by assumption) (by omega) (by omega) rfl trivial ?_
                | refine x_nil ?_
                | refine cw_seq ?_
                | refine nw_seq ?_
                | refine nw_block ?_
                | refine cw_block ?_
                | refine cw_skip ?_
                | refine cw_region ?_
                | refine cw_exit rfl ?_
                | refine cw_true rfl ?_
                | refine cw_false rfl ?_)
              refine x_false 155 rfl (by simp [wd]) ?_
              repeat (first
                | refine x_move rfl rfl rfl trivial ?_
                | refine x_assign rfl rfl rfl trivial ?_
                | refine x_add rfl rfl rfl (wrap_i64 (by omega) (by omega)) rfl trivial ?_
                | refine x_sub_ rfl rfl rfl (wrap_i64 (by omega) (by omega)) rfl trivial ?_
                | refine x_sub_ rfl rfl rfl (wrap_u32 (by omega) (by omega)) rfl trivial ?_
                | refine x_add rfl rfl rfl (wrap_u32 (by omega) (by omega)) rfl trivial ?_
                | refine x_peqn rfl rfl rfl rfl trivial ?_
                | refine x_pnen rfl rfl rfl rfl trivial ?_
                | refine x_mul rfl rfl rfl (wrap_i64 (by omega) (by omega)) rfl trivial ?_
                | refine x_ibin rfl rfl rfl rfl rfl trivial ?_
                | refine x_neg_ rfl rfl (wrap_i64 (by omega) (by omega)) rfl trivial ?_
                | refine x_len rfl rfl (by assumption) rfl trivial ?_
                | refine x_pick_t rfl rfl rfl rfl trivial ?_
                | refine x_pick_f rfl rfl rfl rfl trivial ?_
                | refine x_not rfl rfl rfl trivial ?_
                | refine x_beq rfl rfl rfl rfl trivial ?_
                | refine x_bne rfl rfl rfl rfl trivial ?_
                | refine x_extract rfl rfl rfl rfl trivial ?_
                | refine x_nilCheck rfl rfl rfl trivial ?_
                | refine x_fieldAddr rfl rfl rfl rfl trivial ?_
                | refine x_skip trivial rfl rfl rfl ?_
                | refine x_indexAddr1 rfl rfl rfl (by assumption) (by omega) (by omega) rfl trivial ?_
                | refine x_indexAddr rfl rfl rfl (by assumption) (by omega) (by omega) rfl trivial ?_
                | refine x_nil ?_
                | refine cw_seq ?_
                | refine nw_seq ?_
                | refine nw_block ?_
                | refine cw_block ?_
                | refine cw_skip ?_
                | refine cw_region ?_
                | refine cw_exit rfl ?_
                | refine cw_true rfl ?_
                | refine cw_false rfl ?_)
              exact nw_round (k + 1) (by repeat (first | exact True.intro | refine ⟨rfl, ?_⟩)) ⟨rfl, by show k + 1 ≤ _; omega⟩ (by show sz zs j - (k + 1) < sz zs j - k; omega)
          · rw [if_neg (show ¬ (j = W ∧ k = A) by omega)] at r2
            repeat (first
              | refine x_move rfl rfl rfl trivial ?_
              | refine x_assign rfl rfl rfl trivial ?_
              | refine x_add rfl rfl rfl (wrap_i64 (by omega) (by omega)) rfl trivial ?_
              | refine x_sub_ rfl rfl rfl (wrap_i64 (by omega) (by omega)) rfl trivial ?_
              | refine x_sub_ rfl rfl rfl (wrap_u32 (by omega) (by omega)) rfl trivial ?_
              | refine x_add rfl rfl rfl (wrap_u32 (by omega) (by omega)) rfl trivial ?_
              | refine x_peqn rfl rfl rfl rfl trivial ?_
              | refine x_pnen rfl rfl rfl rfl trivial ?_
              | refine x_mul rfl rfl rfl (wrap_i64 (by omega) (by omega)) rfl trivial ?_
              | refine x_ibin rfl rfl rfl rfl rfl trivial ?_
              | refine x_neg_ rfl rfl (wrap_i64 (by omega) (by omega)) rfl trivial ?_
              | refine x_len rfl rfl (by assumption) rfl trivial ?_
              | refine x_pick_t rfl rfl rfl rfl trivial ?_
              | refine x_pick_f rfl rfl rfl rfl trivial ?_
              | refine x_not rfl rfl rfl trivial ?_
              | refine x_beq rfl rfl rfl rfl trivial ?_
              | refine x_bne rfl rfl rfl rfl trivial ?_
              | refine x_extract rfl rfl rfl rfl trivial ?_
              | refine x_nilCheck rfl rfl rfl trivial ?_
              | refine x_fieldAddr rfl rfl rfl rfl trivial ?_
              | refine x_skip trivial rfl rfl rfl ?_
              | refine x_indexAddr1 rfl rfl rfl (by assumption) (by omega) (by omega) rfl trivial ?_
              | refine x_indexAddr rfl rfl rfl (by assumption) (by omega) (by omega) rfl trivial ?_
              | refine x_nil ?_
              | refine cw_seq ?_
              | refine nw_seq ?_
              | refine nw_block ?_
              | refine cw_block ?_
              | refine cw_skip ?_
              | refine cw_region ?_
              | refine cw_exit rfl ?_
              | refine cw_true rfl ?_
              | refine cw_false rfl ?_)
            refine x_conv_int rfl rfl rfl trivial ?_
            rw [wrap_u32 (by omega) (by omega), show (j : Int) + 1 = ((j + 1 : Nat) : Int) by omega]
            repeat (first
              | refine x_move rfl rfl rfl trivial ?_
              | refine x_assign rfl rfl rfl trivial ?_
              | refine x_add rfl rfl rfl (wrap_i64 (by omega) (by omega)) rfl trivial ?_
              | refine x_sub_ rfl rfl rfl (wrap_i64 (by omega) (by omega)) rfl trivial ?_
              | refine x_sub_ rfl rfl rfl (wrap_u32 (by omega) (by omega)) rfl trivial ?_
              | refine x_add rfl rfl rfl (wrap_u32 (by omega) (by omega)) rfl trivial ?_
              | refine x_peqn rfl rfl rfl rfl trivial ?_
              | refine x_pnen rfl rfl rfl rfl trivial ?_
              | refine x_mul rfl rfl rfl (wrap_i64 (by omega) (by omega)) rfl trivial ?_
              | refine x_ibin rfl rfl rfl rfl rfl trivial ?_
              | refine x_neg_ rfl rfl (wrap_i64 (by omega) (by omega)) rfl trivial ?_
              | refine x_len rfl rfl (by assumption) rfl trivial ?_
              | refine x_pick_t rfl rfl rfl rfl trivial ?_
              | refine x_pick_f rfl rfl rfl rfl trivial ?_
              | refine x_not rfl rfl rfl trivial ?_
              | refine x_beq rfl rfl rfl rfl trivial ?_
              | refine x_bne rfl rfl rfl rfl trivial ?_
              | refine x_extract rfl rfl rfl rfl trivial ?_
              | refine x_nilCheck rfl rfl rfl trivial ?_
              | refine x_fieldAddr rfl rfl rfl rfl trivial ?_
              | refine x_skip trivial rfl rfl rfl ?_
              | refine x_indexAddr1 rfl rfl rfl (by assumption) (by omega) (by omega) rfl trivial ?_
              | refine x_indexAddr rfl rfl rfl (by assumption) (by omega) (by omega) rfl trivial ?_
              | refine x_nil ?_
              | refine cw_seq ?_
              | refine nw_seq ?_
              | refine nw_block ?_
              | refine cw_block ?_
              | refine cw_skip ?_
              | refine cw_region ?_
              | refine cw_exit rfl ?_
              | refine cw_true rfl ?_
              | refine cw_false rfl ?_)
            refine x_call rfl rfl rfl trivial (as_Get (a := a) (h := j + 1) (i := k) hA5 (by omega) (by omega)) ?_
            rintro _ _ ⟨rfl, rfl⟩
            refine ⟨trivial, ?_⟩
            rw [r1, r2]
            repeat (first
              | refine x_move rfl rfl rfl trivial ?_
              | refine x_assign rfl rfl rfl trivial ?_
              | refine x_add rfl rfl rfl (wrap_i64 (by omega) (by omega)) rfl trivial ?_
              | refine x_sub_ rfl rfl rfl (wrap_i64 (by omega) (by omega)) rfl trivial ?_
              | refine x_sub_ rfl rfl rfl (wrap_u32 (by omega) (by omega)) rfl trivial ?_
              | refine x_add rfl rfl rfl (wrap_u32 (by omega) (by omega)) rfl trivial ?_
              | refine x_peqn rfl rfl rfl rfl trivial ?_
              | refine x_pnen rfl rfl rfl rfl trivial ?_
              | refine x_mul rfl rfl rfl (wrap_i64 (by omega) (by omega)) rfl trivial ?_
              | refine x_ibin rfl rfl rfl rfl rfl trivial ?_
              | refine x_neg_ rfl rfl (wrap_i64 (by omega) (by omega)) rfl trivial ?_
              | refine x_len rfl rfl (by assumption) rfl trivial ?_
              | refine x_pick_t rfl rfl rfl rfl trivial ?_
              | refine x_pick_f rfl rfl rfl rfl trivial ?_
              | refine x_not rfl rfl rfl trivial ?_
              | refine x_beq rfl rfl rfl rfl trivial ?_
              | refine x_bne rfl rfl rfl rfl trivial ?_
              | refine x_extract rfl rfl rfl rfl trivial ?_
              | refine x_nilCheck rfl rfl rfl trivial ?_
              | refine x_fieldAddr rfl rfl rfl rfl trivial ?_
              | refine x_skip trivial rfl rfl rfl ?_
              | refine x_indexAddr1 rfl rfl rfl (by assumption) (by omega) (by omega) rfl trivial ?_
              | refine x_indexAddr rfl rfl rfl (by assumption) (by omega) (by omega) rfl trivial ?_
              | refine x_nil ?_
              | refine cw_seq ?_
              | refine nw_seq ?_
              | refine nw_block ?_
              | refine cw_block ?_
              | refine cw_skip ?_
              | refine cw_region ?_
              | refine cw_exit rfl ?_
              | refine cw_true rfl ?_
              | refine cw_false rfl ?_)
            refine x_false 155 rfl (by simp [wd]) ?_
            repeat (first
              | refine x_move rfl rfl rfl trivial ?_
              | refine x_assign rfl rfl rfl trivial ?_
              | refine x_add rfl rfl rfl (wrap_i64 (by omega) (by omega)) rfl trivial ?_
              | refine x_sub_ rfl rfl rfl (wrap_i64 (by omega) (by omega)) rfl trivial ?_
              | refine x_sub_ rfl rfl rfl (wrap_u32 (by omega) (by omega)) rfl trivial ?_
              | refine x_add rfl rfl rfl (wrap_u32 (by omega) (by omega)) rfl trivial ?_
              | refine x_peqn rfl rfl rfl rfl trivial ?_
              | refine x_pnen rfl rfl rfl rfl trivial ?_
              | refine x_mul rfl rfl rfl (wrap_i64 (by omega) (by omega)) rfl trivial ?_
              | refine x_ibin rfl rfl rfl rfl rfl trivial ?_
              | refine x_neg_ rfl rfl (wrap_i64 (by omega) (by omega)) rfl trivial ?_
              | refine x_len rfl rfl (by assumption) rfl trivial ?_
              | refine x_pick_t rfl rfl rfl rfl trivial ?_
              | refine x_pick_f rfl rfl rfl rfl trivial ?_
              | refine x_not rfl rfl rfl trivial ?_
              | refine x_beq rfl rfl rfl rfl trivial ?_
              | refine x_bne rfl rfl rfl rfl trivial ?_
              | refine x_extract rfl rfl rfl rfl trivial ?_
              | refine x_nilCheck rfl rfl rfl trivial ?_
              | refine x_fieldAddr rfl rfl rfl rfl trivial ?_
              | refine x_skip trivial rfl rfl rfl ?_
              | refine x_indexAddr1 rfl rfl rfl (by assumption) (by omega) (by omega) rfl trivial ?_
              | refine x_indexAddr rfl rfl rfl (by assumption) (by omega) (by omega) rfl trivial ?_
              | refine x_nil ?_
              | refine cw_seq ?_
              | refine nw_seq ?_
              | refine nw_block ?_
              | refine cw_block ?_
              | refine cw_skip ?_
              | refine cw_region ?_
              | refine cw_exit rfl ?_
              | refine cw_true rfl ?_
              | refine cw_false rfl ?_)
            exact nw_round (k + 1) (by repeat (first | exact True.intro | refine ⟨rfl, ?_⟩)) ⟨rfl, by show k + 1 ≤ _; omega⟩ (by show sz zs j - (k + 1) < sz zs j - k; omega)
        · repeat (first
            | refine x_move rfl rfl rfl trivial ?_
            | refine x_assign rfl rfl rfl trivial ?_
            | refine x_add rfl rfl rfl (wrap_i64 (by omega) (by omega)) rfl trivial ?_
            | refine x_sub_ rfl rfl rfl (wrap_i64 (by omega) (by omega)) rfl trivial ?_
            | refine x_sub_ rfl rfl rfl (wrap_u32 (by omega) (by omega)) rfl trivial ?_
            | refine x_add rfl rfl rfl (wrap_u32 (by omega) (by omega)) rfl trivial ?_
            | refine x_peqn rfl rfl rfl rfl trivial ?_
            | refine x_pnen rfl rfl rfl rfl trivial ?_
            | refine x_mul rfl rfl rfl (wrap_i64 (by omega) (by omega)) rfl trivial ?_
            | refine x_ibin rfl rfl rfl rfl rfl trivial ?_
            | refine x_neg_ rfl rfl (wrap_i64 (by omega) (by omega)) rfl trivial ?_
            | refine x_len rfl rfl (by assumption) rfl trivial ?_
            | refine x_pick_t rfl rfl rfl rfl trivial ?_
            | refine x_pick_f rfl rfl rfl rfl trivial ?_
            | refine x_not rfl rfl rfl trivial ?_
            | refine x_beq rfl rfl rfl rfl trivial ?_
            | refine x_bne rfl rfl rfl rfl trivial ?_
            | refine x_extract rfl rfl rfl rfl trivial ?_
            | refine x_nilCheck rfl rfl rfl trivial ?_
            | refine x_fieldAddr rfl rfl rfl rfl trivial ?_
            | refine x_skip trivial rfl rfl rfl ?_
            | refine x_indexAddr1 rfl rfl rfl (by assumption) (by omega) (by omega) rfl trivial ?_
            | refine x_indexAddr rfl rfl rfl (by assumption) (by omega) (by omega) rfl trivial ?_
            | refine x_nil ?_
            | refine cw_seq ?_
            | refine nw_seq ?_
            | refine nw_block ?_
            | refine cw_block ?_
            | refine cw_skip ?_
            | refine cw_region ?_
            | refine cw_exit rfl ?_
            | refine cw_true rfl ?_
            | refine cw_false rfl ?_)
          exact nw_round (j + 1) (by repeat (first | exact True.intro | refine ⟨rfl, ?_⟩)) ⟨rfl, by show j + 1 ≤ _; omega⟩ (by show zs.length - (j + 1) < zs.length - j; omega)
      · have hje : j = zs.length := by omega
        subst hje
        repeat (first
          | refine x_move rfl rfl rfl trivial ?_
          | refine x_assign rfl rfl rfl trivial ?_
          | refine x_add rfl rfl rfl (wrap_i64 (by omega) (by omega)) rfl trivial ?_
          | refine x_sub_ rfl rfl rfl (wrap_i64 (by omega) (by omega)) rfl trivial ?_
          | refine x_sub_ rfl rfl rfl (wrap_u32 (by omega) (by omega)) rfl trivial ?_
          | refine x_add rfl rfl rfl (wrap_u32 (by omega) (by omega)) rfl trivial ?_
          | refine x_peqn rfl rfl rfl rfl trivial ?_
          | refine x_pnen rfl rfl rfl rfl trivial ?_
          | refine x_mul rfl rfl rfl (wrap_i64 (by omega) (by omega)) rfl trivial ?_
          | refine x_ibin rfl rfl rfl rfl rfl trivial ?_
          | refine x_neg_ rfl rfl (wrap_i64 (by omega) (by omega)) rfl trivial ?_
          | refine x_len rfl rfl (by assumption) rfl trivial ?_
          | refine x_pick_t rfl rfl rfl rfl trivial ?_
          | refine x_pick_f rfl rfl rfl rfl trivial ?_
          | refine x_not rfl rfl rfl trivial ?_
          | refine x_beq rfl rfl rfl rfl trivial ?_
          | refine x_bne rfl rfl rfl rfl trivial ?_
          | refine x_extract rfl rfl rfl rfl trivial ?_
          | refine x_nilCheck rfl rfl rfl trivial ?_
          | refine x_fieldAddr rfl rfl rfl rfl trivial ?_
          | refine x_skip trivial rfl rfl rfl ?_
          | refine x_indexAddr1 rfl rfl rfl (by assumption) (by omega) (by omega) rfl trivial ?_
          | refine x_indexAddr rfl rfl rfl (by assumption) (by omega) (by omega) rfl trivial ?_
          | refine x_nil ?_
          | refine cw_seq ?_
          | refine nw_seq ?_
          | refine nw_block ?_
          | refine cw_block ?_
          | refine cw_skip ?_
          | refine cw_region ?_
          | refine cw_exit rfl ?_
          | refine cw_true rfl ?_
          | refine cw_false rfl ?_)
        refine x_call rfl rfl rfl trivial (as_Live (a := a) hA5 (by omega) (by omega)) ?_
        rintro _ _ ⟨rfl, rfl⟩
        refine ⟨trivial, ?_⟩
        rw [hp.live]
        repeat (first
          | refine x_move rfl rfl rfl trivial ?_
          | refine x_assign rfl rfl rfl trivial ?_
          | refine x_add rfl rfl rfl (wrap_i64 (by omega) (by omega)) rfl trivial ?_
          | refine x_sub_ rfl rfl rfl (wrap_i64 (by omega) (by omega)) rfl trivial ?_
          | refine x_sub_ rfl rfl rfl (wrap_u32 (by omega) (by omega)) rfl trivial ?_
          | refine x_add rfl rfl rfl (wrap_u32 (by omega) (by omega)) rfl trivial ?_
          | refine x_peqn rfl rfl rfl rfl trivial ?_
          | refine x_pnen rfl rfl rfl rfl trivial ?_
          | refine x_mul rfl rfl rfl (wrap_i64 (by omega) (by omega)) rfl trivial ?_
          | refine x_ibin rfl rfl rfl rfl rfl trivial ?_
          | refine x_neg_ rfl rfl (wrap_i64 (by omega) (by omega)) rfl trivial ?_
          | refine x_len rfl rfl (by assumption) rfl trivial ?_
          | refine x_pick_t rfl rfl rfl rfl trivial ?_
          | refine x_pick_f rfl rfl rfl rfl trivial ?_
          | refine x_not rfl rfl rfl trivial ?_
          | refine x_beq rfl rfl rfl rfl trivial ?_
          | refine x_bne rfl rfl rfl rfl trivial ?_
          | refine x_extract rfl rfl rfl rfl trivial ?_
          | refine x_nilCheck rfl rfl rfl trivial ?_
          | refine x_fieldAddr rfl rfl rfl rfl trivial ?_
          | refine x_skip trivial rfl rfl rfl ?_
          | refine x_indexAddr1 rfl rfl rfl (by assumption) (by omega) (by omega) rfl trivial ?_
          | refine x_indexAddr rfl rfl rfl (by assumption) (by omega) (by omega) rfl trivial ?_
          | refine x_nil ?_
          | refine cw_seq ?_
          | refine nw_seq ?_
          | refine nw_block ?_
          | refine cw_block ?_
          | refine cw_skip ?_
          | refine cw_region ?_
          | refine cw_exit rfl ?_
          | refine cw_true rfl ?_
          | refine cw_false rfl ?_)
        refine x_true 164 rfl (by simp) ?_
        repeat (first
          | refine x_move rfl rfl rfl trivial ?_
          | refine x_assign rfl rfl rfl trivial ?_
          | refine x_add rfl rfl rfl (wrap_i64 (by omega) (by omega)) rfl trivial ?_
          | refine x_sub_ rfl rfl rfl (wrap_i64 (by omega) (by omega)) rfl trivial ?_
          | refine x_sub_ rfl rfl rfl (wrap_u32 (by omega) (by omega)) rfl trivial ?_
          | refine x_add rfl rfl rfl (wrap_u32 (by omega) (by omega)) rfl trivial ?_
          | refine x_peqn rfl rfl rfl rfl trivial ?_
          | refine x_pnen rfl rfl rfl rfl trivial ?_
          | refine x_mul rfl rfl rfl (wrap_i64 (by omega) (by omega)) rfl trivial ?_
          | refine x_ibin rfl rfl rfl rfl rfl trivial ?_
          | refine x_neg_ rfl rfl (wrap_i64 (by omega) (by omega)) rfl trivial ?_
          | refine x_len rfl rfl (by assumption) rfl trivial ?_
          | refine x_pick_t rfl rfl rfl rfl trivial ?_
          | refine x_pick_f rfl rfl rfl rfl trivial ?_
          | refine x_not rfl rfl rfl trivial ?_
          | refine x_beq rfl rfl rfl rfl trivial ?_
          | refine x_bne rfl rfl rfl rfl trivial ?_
          | refine x_extract rfl rfl rfl rfl trivial ?_
          | refine x_nilCheck rfl rfl rfl trivial ?_
          | refine x_fieldAddr rfl rfl rfl rfl trivial ?_
          | refine x_skip trivial rfl rfl rfl ?_
          | refine x_indexAddr1 rfl rfl rfl (by assumption) (by omega) (by omega) rfl trivial ?_
          | refine x_indexAddr rfl rfl rfl (by assumption) (by omega) (by omega) rfl trivial ?_
          | refine x_nil ?_
          | refine cw_seq ?_
          | refine nw_seq ?_
          | refine nw_block ?_
          | refine cw_block ?_
          | refine cw_skip ?_
          | refine cw_region ?_
          | refine cw_exit rfl ?_
          | refine cw_true rfl ?_
          | refine cw_false rfl ?_)
        refine x_call rfl rfl rfl trivial (as_Free (a := a) hA5 hp.wf (by omega) (by omega)) ?_
        rintro _ _ ⟨rfl, rfl⟩
        refine ⟨trivial, ?_⟩
        rw [hp.live, hp.most]
        repeat (first
          | refine x_move rfl rfl rfl trivial ?_
          | refine x_assign rfl rfl rfl trivial ?_
          | refine x_add rfl rfl rfl (wrap_i64 (by omega) (by omega)) rfl trivial ?_
          | refine x_sub_ rfl rfl rfl (wrap_i64 (by omega) (by omega)) rfl trivial ?_
          | refine x_sub_ rfl rfl rfl (wrap_u32 (by omega) (by omega)) rfl trivial ?_
          | refine x_add rfl rfl rfl (wrap_u32 (by omega) (by omega)) rfl trivial ?_
          | refine x_peqn rfl rfl rfl rfl trivial ?_
          | refine x_pnen rfl rfl rfl rfl trivial ?_
          | refine x_mul rfl rfl rfl (wrap_i64 (by omega) (by omega)) rfl trivial ?_
          | refine x_ibin rfl rfl rfl rfl rfl trivial ?_
          | refine x_neg_ rfl rfl (wrap_i64 (by omega) (by omega)) rfl trivial ?_
          | refine x_len rfl rfl (by assumption) rfl trivial ?_
          | refine x_pick_t rfl rfl rfl rfl trivial ?_
          | refine x_pick_f rfl rfl rfl rfl trivial ?_
          | refine x_not rfl rfl rfl trivial ?_
          | refine x_beq rfl rfl rfl rfl trivial ?_
          | refine x_bne rfl rfl rfl rfl trivial ?_
          | refine x_extract rfl rfl rfl rfl trivial ?_
          | refine x_nilCheck rfl rfl rfl trivial ?_
          | refine x_fieldAddr rfl rfl rfl rfl trivial ?_
          | refine x_skip trivial rfl rfl rfl ?_
          | refine x_indexAddr1 rfl rfl rfl (by assumption) (by omega) (by omega) rfl trivial ?_
          | refine x_indexAddr rfl rfl rfl (by assumption) (by omega) (by omega) rfl trivial ?_
          | refine x_nil ?_
          | refine cw_seq ?_
          | refine nw_seq ?_
          | refine nw_block ?_
          | refine cw_block ?_
          | refine cw_skip ?_
          | refine cw_region ?_
          | refine cw_exit rfl ?_
          | refine cw_true rfl ?_
          | refine cw_false rfl ?_)
        refine x_true 172 rfl (by simp) ?_
        repeat (first
          | refine x_move rfl rfl rfl trivial ?_
          | refine x_assign rfl rfl rfl trivial ?_
          | refine x_add rfl rfl rfl (wrap_i64 (by omega) (by omega)) rfl trivial ?_
          | refine x_sub_ rfl rfl rfl (wrap_i64 (by omega) (by omega)) rfl trivial ?_
          | refine x_sub_ rfl rfl rfl (wrap_u32 (by omega) (by omega)) rfl trivial ?_
          | refine x_add rfl rfl rfl (wrap_u32 (by omega) (by omega)) rfl trivial ?_
          | refine x_peqn rfl rfl rfl rfl trivial ?_
          | refine x_pnen rfl rfl rfl rfl trivial ?_
          | refine x_mul rfl rfl rfl (wrap_i64 (by omega) (by omega)) rfl trivial ?_
          | refine x_ibin rfl rfl rfl rfl rfl trivial ?_
          | refine x_neg_ rfl rfl (wrap_i64 (by omega) (by omega)) rfl trivial ?_
          | refine x_len rfl rfl (by assumption) rfl trivial ?_
          | refine x_pick_t rfl rfl rfl rfl trivial ?_
          | refine x_pick_f rfl rfl rfl rfl trivial ?_
          | refine x_not rfl rfl rfl trivial ?_
          | refine x_beq rfl rfl rfl rfl trivial ?_
          | refine x_bne rfl rfl rfl rfl trivial ?_
          | refine x_extract rfl rfl rfl rfl trivial ?_
          | refine x_nilCheck rfl rfl rfl trivial ?_
          | refine x_fieldAddr rfl rfl rfl rfl trivial ?_
          | refine x_skip trivial rfl rfl rfl ?_
          | refine x_indexAddr1 rfl rfl rfl (by assumption) (by omega) (by omega) rfl trivial ?_
          | refine x_indexAddr rfl rfl rfl (by assumption) (by omega) (by omega) rfl trivial ?_
          | refine x_nil ?_
          | refine cw_seq ?_
          | refine nw_seq ?_
          | refine nw_block ?_
          | refine cw_block ?_
          | refine cw_skip ?_
          | refine cw_region ?_
          | refine cw_exit rfl ?_
          | refine cw_true rfl ?_
          | refine cw_false rfl ?_)
        refine x_call rfl rfl rfl trivial (awake5 _) ?_
        rintro _ Hz ⟨rfl, hkz⟩
        refine ⟨trivial, ?_⟩
        repeat (first
          | refine x_move rfl rfl rfl trivial ?_
          | refine x_assign rfl rfl rfl trivial ?_
          | refine x_add rfl rfl rfl (wrap_i64 (by omega) (by omega)) rfl trivial ?_
          | refine x_sub_ rfl rfl rfl (wrap_i64 (by omega) (by omega)) rfl trivial ?_
          | refine x_sub_ rfl rfl rfl (wrap_u32 (by omega) (by omega)) rfl trivial ?_
          | refine x_add rfl rfl rfl (wrap_u32 (by omega) (by omega)) rfl trivial ?_
          | refine x_peqn rfl rfl rfl rfl trivial ?_
          | refine x_pnen rfl rfl rfl rfl trivial ?_
          | refine x_mul rfl rfl rfl (wrap_i64 (by omega) (by omega)) rfl trivial ?_
          | refine x_ibin rfl rfl rfl rfl rfl trivial ?_
          | refine x_neg_ rfl rfl (wrap_i64 (by omega) (by omega)) rfl trivial ?_
          | refine x_len rfl rfl (by assumption) rfl trivial ?_
          | refine x_pick_t rfl rfl rfl rfl trivial ?_
          | refine x_pick_f rfl rfl rfl rfl trivial ?_
          | refine x_not rfl rfl rfl trivial ?_
          | refine x_beq rfl rfl rfl rfl trivial ?_
          | refine x_bne rfl rfl rfl rfl trivial ?_
          | refine x_extract rfl rfl rfl rfl trivial ?_
          | refine x_nilCheck rfl rfl rfl trivial ?_
          | refine x_fieldAddr rfl rfl rfl rfl trivial ?_
          | refine x_skip trivial rfl rfl rfl ?_
          | refine x_indexAddr1 rfl rfl rfl (by assumption) (by omega) (by omega) rfl trivial ?_
          | refine x_indexAddr rfl rfl rfl (by assumption) (by omega) (by omega) rfl trivial ?_
          | refine x_nil ?_
          | refine cw_seq ?_
          | refine nw_seq ?_
          | refine nw_block ?_
          | refine cw_block ?_
          | refine cw_skip ?_
          | refine cw_region ?_
          | refine cw_exit rfl ?_
          | refine cw_true rfl ?_
          | refine cw_false rfl ?_)
        exact cw_ret1 rfl rfl ⟨rfl, (hA5.keep0).non_trans hkz⟩
end Go.Proofs.Ytioaicleodjmpaa.X
