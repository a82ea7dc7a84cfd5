/- The package shelf: what its functions answer. -/
import Derived.Test.YtngnoapfmfneaaaMod2
namespace Go.Proofs.Ytngnoapfmfneaaa.X
open Go Go.Proofs
set_option linter.unusedVariables false
set_option linter.unusedSimpArgs false
set_option maxRecDepth 10000
set_option maxHeartbeats 2000000

/-- a shelf: part 4, and a map of at most eight pairs -/
structure Sh (K : Role) (H : Heap) (s : Nat) (l : List Pr) : Prop where
  ks : K s = 4
  row : ∃ b, Blk H s [ptr b 0] ∧ Mo K H b l
  few : l.length ≤ 8
  rise : rises l = true
  keys : ∀ p ∈ l, p.1.length ≤ 65535
section sh
variable {K K' : Role} {H H' : Heap} {s : Nat} {l : List Pr}
theorem Sh.keep {S : Nat → Prop} (h : Sh K H s l) (k : Keep S H H') (hS : ∀ x, K x ≠ 0 → ¬ S x) : Sh K H' s l := by
  obtain ⟨b, h1, h2⟩ := h.row
  exact ⟨h.ks, ⟨b, h1.keep k (hS s (by rw [h.ks]; omega)), h2.keep k hS⟩, h.few, h.rise, h.keys⟩
theorem Sh.keepN (h : Sh K H s l) (k : Keep Non H H') : Sh K H' s l := h.keep k (fun _ _ h => h)
theorem Sh.kin (h : Sh K H s l) : K.In H := let ⟨_, _, h2⟩ := h.row; h2.kin
end sh

theorem shelf_Len {K : Role} {s : Nat} {l : List Pr} {H : Heap} (hS : Sh K H s l) : Ret Try.prog 14 [ptr s 0] H (fun r H' => H = H' ∧ r = .int .i64 l.length) := by
  obtain ⟨b, hB, hM⟩ := hS.row
  have c0 : cel H s 0 = some (ptr b 0) := by rw [hB.cel]; rfl
  refine ret_of Try.func14 rfl rfl rfl rfl ?_
  intro w0
  repeat (first | refine x_move rfl rfl rfl trivial ?_ | refine x_assign rfl rfl rfl trivial ?_ | refine x_peqn rfl rfl rfl rfl trivial ?_ | refine x_ibin rfl rfl rfl rfl rfl trivial ?_ | refine x_nilCheck rfl rfl rfl trivial ?_ | refine x_fieldAddr rfl rfl rfl rfl trivial ?_ | refine x_nil ?_ | refine cw_seq ?_ | refine nw_seq ?_ | refine cw_skip ?_ | refine cw_region ?_ | refine cw_true rfl ?_ | refine cw_false rfl ?_)
  refine x_load rfl rfl (hpmt (c0)) rfl trivial ?_
  repeat (first | refine x_move rfl rfl rfl trivial ?_ | refine x_assign rfl rfl rfl trivial ?_ | refine x_peqn rfl rfl rfl rfl trivial ?_ | refine x_ibin rfl rfl rfl rfl rfl trivial ?_ | refine x_nilCheck rfl rfl rfl trivial ?_ | refine x_fieldAddr rfl rfl rfl rfl trivial ?_ | refine x_nil ?_ | refine cw_seq ?_ | refine nw_seq ?_ | refine cw_skip ?_ | refine cw_region ?_ | refine cw_true rfl ?_ | refine cw_false rfl ?_)
  refine x_call rfl rfl rfl trivial (model_Len hM) ?_
  rintro _ _ ⟨rfl, rfl⟩
  refine ⟨trivial, ?_⟩
  repeat (first | refine x_move rfl rfl rfl trivial ?_ | refine x_assign rfl rfl rfl trivial ?_ | refine x_peqn rfl rfl rfl rfl trivial ?_ | refine x_ibin rfl rfl rfl rfl rfl trivial ?_ | refine x_nilCheck rfl rfl rfl trivial ?_ | refine x_fieldAddr rfl rfl rfl rfl trivial ?_ | refine x_nil ?_ | refine cw_seq ?_ | refine nw_seq ?_ | refine cw_skip ?_ | refine cw_region ?_ | refine cw_true rfl ?_ | refine cw_false rfl ?_)
  exact cw_ret1 rfl rfl ⟨rfl, rfl⟩
theorem shelf_LenNil {H : Heap} : Ret Try.prog 14 [.pointer none] H (fun r H' => H = H' ∧ r = .int .i64 0) := by
  refine ret_of Try.func14 rfl rfl rfl rfl ?_
  intro w0
  repeat (first | refine x_move rfl rfl rfl trivial ?_ | refine x_assign rfl rfl rfl trivial ?_ | refine x_peqn rfl rfl rfl rfl trivial ?_ | refine x_ibin rfl rfl rfl rfl rfl trivial ?_ | refine x_nilCheck rfl rfl rfl trivial ?_ | refine x_fieldAddr rfl rfl rfl rfl trivial ?_ | refine x_nil ?_ | refine cw_seq ?_ | refine nw_seq ?_ | refine cw_skip ?_ | refine cw_region ?_ | refine cw_true rfl ?_ | refine cw_false rfl ?_)
  exact cw_ret1 rfl rfl ⟨rfl, rfl⟩
theorem shelf_PutNil {vk : Value} {x : Int} {H : Heap} : Ret Try.prog 13 [.pointer none, vk, .int .u64 x] H (fun r H' => H = H' ∧ r = .tuple #[.int .u64 0, .bool false, .int .i64 1]) := by
  refine ret_of Try.func13 rfl rfl rfl rfl ?_
  intro w0
  repeat (first | refine x_move rfl rfl rfl trivial ?_ | refine x_assign rfl rfl rfl trivial ?_ | refine x_peqn rfl rfl rfl rfl trivial ?_ | refine x_ibin rfl rfl rfl rfl rfl trivial ?_ | refine x_pick_t rfl rfl rfl rfl trivial ?_ | refine x_pick_f rfl rfl rfl rfl trivial ?_ | refine x_not rfl rfl rfl trivial ?_ | refine x_extract rfl rfl rfl rfl trivial ?_ | refine x_nilCheck rfl rfl rfl trivial ?_ | refine x_fieldAddr rfl rfl rfl rfl trivial ?_ | refine x_skip trivial rfl rfl rfl ?_ | refine x_nil ?_ | refine cw_seq ?_ | refine nw_seq ?_ | refine nw_block ?_ | refine cw_block ?_ | refine cw_skip ?_ | refine cw_region ?_ | refine cw_true rfl ?_ | refine cw_false rfl ?_)
  exact cw_ret3 rfl rfl rfl rfl ⟨rfl, rfl⟩
theorem shelf_Find {K : Role} {s : Nat} {vk : Value} {l : List Pr} {k : Bytes} {H : Heap} (hS : Sh K H s l) (hK : Bs H vk k) : Ret Try.prog 15 [ptr s 0, vk] H (fun r H' => Keep Non H H' ∧ r = .tuple #[.int .i64 (rank l k), .bool (there l k)]) := by
  obtain ⟨b, hB, hM⟩ := hS.row
  have c0 : cel H s 0 = some (ptr b 0) := by rw [hB.cel]; rfl
  have hf := hS.few
  refine ret_of Try.func15 rfl rfl rfl rfl ?_
  intro w0
  repeat (first | refine x_move rfl rfl rfl trivial ?_ | refine x_assign rfl rfl rfl trivial ?_ | refine x_peqn rfl rfl rfl rfl trivial ?_ | refine x_ibin rfl rfl rfl rfl rfl trivial ?_ | refine x_extract rfl rfl rfl rfl trivial ?_ | refine x_nilCheck rfl rfl rfl trivial ?_ | refine x_fieldAddr rfl rfl rfl rfl trivial ?_ | refine x_nil ?_ | refine cw_seq ?_ | refine nw_seq ?_ | refine cw_skip ?_ | refine cw_region ?_ | refine cw_true rfl ?_ | refine cw_false rfl ?_)
  refine x_load rfl rfl (hpmt (c0)) rfl trivial ?_
  repeat (first | refine x_move rfl rfl rfl trivial ?_ | refine x_assign rfl rfl rfl trivial ?_ | refine x_peqn rfl rfl rfl rfl trivial ?_ | refine x_ibin rfl rfl rfl rfl rfl trivial ?_ | refine x_extract rfl rfl rfl rfl trivial ?_ | refine x_nilCheck rfl rfl rfl trivial ?_ | refine x_fieldAddr rfl rfl rfl rfl trivial ?_ | refine x_nil ?_ | refine cw_seq ?_ | refine nw_seq ?_ | refine cw_skip ?_ | refine cw_region ?_ | refine cw_true rfl ?_ | refine cw_false rfl ?_)
  refine x_call rfl rfl rfl trivial (model_Get hM hS.rise (by omega) hK) ?_
  rintro _ H1 ⟨hk1, rfl⟩
  refine ⟨trivial, ?_⟩
  have c1 := hk1.cel c0 (fun h => h)
  repeat (first | refine x_move rfl rfl rfl trivial ?_ | refine x_assign rfl rfl rfl trivial ?_ | refine x_peqn rfl rfl rfl rfl trivial ?_ | refine x_ibin rfl rfl rfl rfl rfl trivial ?_ | refine x_extract rfl rfl rfl rfl trivial ?_ | refine x_nilCheck rfl rfl rfl trivial ?_ | refine x_fieldAddr rfl rfl rfl rfl trivial ?_ | refine x_nil ?_ | refine cw_seq ?_ | refine nw_seq ?_ | refine cw_skip ?_ | refine cw_region ?_ | refine cw_true rfl ?_ | refine cw_false rfl ?_)
  refine x_load rfl rfl (hpmt (c1)) rfl trivial ?_
  repeat (first | refine x_move rfl rfl rfl trivial ?_ | refine x_assign rfl rfl rfl trivial ?_ | refine x_peqn rfl rfl rfl rfl trivial ?_ | refine x_ibin rfl rfl rfl rfl rfl trivial ?_ | refine x_extract rfl rfl rfl rfl trivial ?_ | refine x_nilCheck rfl rfl rfl trivial ?_ | refine x_fieldAddr rfl rfl rfl rfl trivial ?_ | refine x_nil ?_ | refine cw_seq ?_ | refine nw_seq ?_ | refine cw_skip ?_ | refine cw_region ?_ | refine cw_true rfl ?_ | refine cw_false rfl ?_)
  refine x_call rfl rfl rfl trivial (model_Rank (hM.keepN hk1) hS.rise (by omega) (hK.keepN hk1)) ?_
  rintro _ H2 ⟨hk2, rfl⟩
  refine ⟨trivial, ?_⟩
  repeat (first | refine x_move rfl rfl rfl trivial ?_ | refine x_assign rfl rfl rfl trivial ?_ | refine x_peqn rfl rfl rfl rfl trivial ?_ | refine x_ibin rfl rfl rfl rfl rfl trivial ?_ | refine x_extract rfl rfl rfl rfl trivial ?_ | refine x_nilCheck rfl rfl rfl trivial ?_ | refine x_fieldAddr rfl rfl rfl rfl trivial ?_ | refine x_nil ?_ | refine cw_seq ?_ | refine nw_seq ?_ | refine cw_skip ?_ | refine cw_region ?_ | refine cw_true rfl ?_ | refine cw_false rfl ?_)
  exact cw_ret2 rfl rfl rfl ⟨hk1.non_trans hk2, rfl⟩
theorem shelf_At {K : Role} {s : Nat} {l : List Pr} {H : Heap} (i : Int) (hS : Sh K H s l) : Ret Try.prog 16 [ptr s 0, .int .i64 i] H (fun r H' => PairA H H' (selI l i) r) := by
  obtain ⟨b, hB, hM⟩ := hS.row
  have hf := hS.few
  refine ret_of Try.func16 rfl rfl rfl rfl ?_
  intro w0
  repeat (first | refine x_move rfl rfl rfl trivial ?_ | refine x_assign rfl rfl rfl trivial ?_ | refine x_peqn rfl rfl rfl rfl trivial ?_ | refine x_ibin rfl rfl rfl rfl rfl trivial ?_ | refine x_extract rfl rfl rfl rfl trivial ?_ | refine x_nilCheck rfl rfl rfl trivial ?_ | refine x_fieldAddr rfl rfl rfl rfl trivial ?_ | refine x_nil ?_ | refine cw_seq ?_ | refine nw_seq ?_ | refine cw_skip ?_ | refine cw_region ?_ | refine cw_true rfl ?_ | refine cw_false rfl ?_)
  refine x_alloc rfl rfl trivial ?_
  intro H1 hn1
  refine ⟨trivial, ?_⟩
  have c0 : cel H1 s 0 = some (ptr b 0) := by rw [(hB.keep hn1.keep (fun h => h)).cel]; rfl
  repeat (first | refine x_move rfl rfl rfl trivial ?_ | refine x_assign rfl rfl rfl trivial ?_ | refine x_peqn rfl rfl rfl rfl trivial ?_ | refine x_ibin rfl rfl rfl rfl rfl trivial ?_ | refine x_extract rfl rfl rfl rfl trivial ?_ | refine x_nilCheck rfl rfl rfl trivial ?_ | refine x_fieldAddr rfl rfl rfl rfl trivial ?_ | refine x_nil ?_ | refine cw_seq ?_ | refine nw_seq ?_ | refine cw_skip ?_ | refine cw_region ?_ | refine cw_true rfl ?_ | refine cw_false rfl ?_)
  refine x_load rfl rfl (hpmt (c0)) rfl trivial ?_
  repeat (first | refine x_move rfl rfl rfl trivial ?_ | refine x_assign rfl rfl rfl trivial ?_ | refine x_peqn rfl rfl rfl rfl trivial ?_ | refine x_ibin rfl rfl rfl rfl rfl trivial ?_ | refine x_extract rfl rfl rfl rfl trivial ?_ | refine x_nilCheck rfl rfl rfl trivial ?_ | refine x_fieldAddr rfl rfl rfl rfl trivial ?_ | refine x_nil ?_ | refine cw_seq ?_ | refine nw_seq ?_ | refine cw_skip ?_ | refine cw_region ?_ | refine cw_true rfl ?_ | refine cw_false rfl ?_)
  refine x_call rfl rfl rfl trivial (model_Select i (hM.keepN hn1.keep) (by omega) (fun p hp => by have := hS.keys p hp; omega)) ?_
  rintro _ H2 ⟨hk2, c, rfl, hc2, hf2⟩
  refine ⟨trivial, ?_⟩
  repeat (first | refine x_move rfl rfl rfl trivial ?_ | refine x_assign rfl rfl rfl trivial ?_ | refine x_peqn rfl rfl rfl rfl trivial ?_ | refine x_ibin rfl rfl rfl rfl rfl trivial ?_ | refine x_extract rfl rfl rfl rfl trivial ?_ | refine x_nilCheck rfl rfl rfl trivial ?_ | refine x_fieldAddr rfl rfl rfl rfl trivial ?_ | refine x_nil ?_ | refine cw_seq ?_ | refine nw_seq ?_ | refine cw_skip ?_ | refine cw_region ?_ | refine cw_true rfl ?_ | refine cw_false rfl ?_)
  refine x_stores rfl rfl rfl rfl (two_oneC' (isSl_oneC hc2.sl)) (hn1.blk.keep hk2 (fun h => h)) (by simp) trivial ?_
  intro H3 hB3 hk3 hs3
  refine ⟨trivial, ?_⟩
  have := hn1.size
  repeat (first | refine x_move rfl rfl rfl trivial ?_ | refine x_assign rfl rfl rfl trivial ?_ | refine x_peqn rfl rfl rfl rfl trivial ?_ | refine x_ibin rfl rfl rfl rfl rfl trivial ?_ | refine x_extract rfl rfl rfl rfl trivial ?_ | refine x_nilCheck rfl rfl rfl trivial ?_ | refine x_fieldAddr rfl rfl rfl rfl trivial ?_ | refine x_nil ?_ | refine cw_seq ?_ | refine nw_seq ?_ | refine cw_skip ?_ | refine cw_region ?_ | refine cw_true rfl ?_ | refine cw_false rfl ?_)
  exact cw_retc2 rfl rfl rfl rfl (hB3.cels 0 2 (by simp [putL])) ⟨keep_at (hn1.keep.non_trans hk2) hk3 (Nat.le_refl _), c, rfl, hc2.keep hk3 (fun hc e => by have := hf2 hc; omega), fun hc => by have := hf2 hc; omega⟩

/-- may a call that puts or drops turn it? -/
theorem dropM_mem {l : List Pr} {k : Bytes} {p : Pr} (h : p ∈ dropM l k) : p ∈ l := by
  unfold dropM at h
  split at h
  · rcases List.mem_append.1 h with h | h
    · exact List.mem_of_mem_take h
    · exact List.mem_of_mem_drop h
  · exact h
theorem dropM_length (l : List Pr) (k : Bytes) : (dropM l k).length ≤ l.length := by
  unfold dropM
  split <;> simp <;> omega
theorem dropM_rises {l : List Pr} (h : rises l = true) (k : Bytes) : rises (dropM l k) = true := by
  unfold dropM
  split
  · have e : l.take (rank l k) ++ l.drop (rank l k + 1) = l.eraseIdx (rank l k) := by rw [List.eraseIdx_eq_take_drop_succ]
    rw [e]
    exact rises_pw.2 ((rises_pw.1 h).sublist (List.eraseIdx_sublist _ _))
  · exact h
theorem shelf_Drop {K : Role} {s : Nat} {vk : Value} {l : List Pr} {k : Bytes} {H : Heap} (hS : Sh K H s l) (hK : Bs H vk k) : Ret Try.prog 17 [ptr s 0, vk] H (fun r H' => r = .tuple #[.int .u64 ((getM l k).getD 0), .bool (there l k)] ∧ Keep (MutM K) H H' ∧ Sh K H' s (dropM l k)) := by
  obtain ⟨b, hB, hM⟩ := hS.row
  have hf := hS.few
  have c0 : cel H s 0 = some (ptr b 0) := by rw [hB.cel]; rfl
  refine ret_of Try.func17 rfl rfl rfl rfl ?_
  intro w0
  repeat (first | refine x_move rfl rfl rfl trivial ?_ | refine x_assign rfl rfl rfl trivial ?_ | refine x_peqn rfl rfl rfl rfl trivial ?_ | refine x_ibin rfl rfl rfl rfl rfl trivial ?_ | refine x_extract rfl rfl rfl rfl trivial ?_ | refine x_nilCheck rfl rfl rfl trivial ?_ | refine x_fieldAddr rfl rfl rfl rfl trivial ?_ | refine x_nil ?_ | refine cw_seq ?_ | refine nw_seq ?_ | refine cw_skip ?_ | refine cw_region ?_ | refine cw_true rfl ?_ | refine cw_false rfl ?_)
  refine x_load rfl rfl (hpmt (c0)) rfl trivial ?_
  repeat (first | refine x_move rfl rfl rfl trivial ?_ | refine x_assign rfl rfl rfl trivial ?_ | refine x_peqn rfl rfl rfl rfl trivial ?_ | refine x_ibin rfl rfl rfl rfl rfl trivial ?_ | refine x_extract rfl rfl rfl rfl trivial ?_ | refine x_nilCheck rfl rfl rfl trivial ?_ | refine x_fieldAddr rfl rfl rfl rfl trivial ?_ | refine x_nil ?_ | refine cw_seq ?_ | refine nw_seq ?_ | refine cw_skip ?_ | refine cw_region ?_ | refine cw_true rfl ?_ | refine cw_false rfl ?_)
  refine x_call rfl rfl rfl trivial (model_Drop hM hS.rise (by omega) hK) ?_
  rintro _ H1 ⟨rfl, hk1, hM1⟩
  refine ⟨trivial, ?_⟩
  repeat (first | refine x_move rfl rfl rfl trivial ?_ | refine x_assign rfl rfl rfl trivial ?_ | refine x_peqn rfl rfl rfl rfl trivial ?_ | refine x_ibin rfl rfl rfl rfl rfl trivial ?_ | refine x_extract rfl rfl rfl rfl trivial ?_ | refine x_nilCheck rfl rfl rfl trivial ?_ | refine x_fieldAddr rfl rfl rfl rfl trivial ?_ | refine x_nil ?_ | refine cw_seq ?_ | refine nw_seq ?_ | refine cw_skip ?_ | refine cw_region ?_ | refine cw_true rfl ?_ | refine cw_false rfl ?_)
  have hks := hS.ks
  refine cw_ret2 rfl rfl rfl ⟨rfl, hk1, hS.ks, ⟨b, hB.keep hk1 (fun e => by rcases e with e | e <;> omega), hM1⟩, ?_, dropM_rises hS.rise k, fun p hp => hS.keys p (dropM_mem hp)⟩
  have := dropM_length l k
  omega
/-- what a put of a shelf answers: full? -/
def fullS (l : List Pr) (k : Bytes) : Prop := there l k = false ∧ l.length = 8
instance (l : List Pr) (k : Bytes) : Decidable (fullS l k) := inferInstanceAs (Decidable (_ ∧ _))
theorem shelf_Put {K : Role} {s : Nat} {vk : Value} {l : List Pr} {k : Bytes} {H : Heap} (x : Int) (hS : Sh K H s l) (hK : Bs H vk k) (hk : k.length ≤ 65535) :
    Ret Try.prog 13 [ptr s 0, vk, .int .u64 x] H (fun r H' => r = (if fullS l k then .tuple #[.int .u64 0, .bool false, .int .i64 4] else .tuple #[.int .u64 ((getM l k).getD 0), .bool (there l k), .int .i64 0]) ∧ Keep (MutM K) H H' ∧ ∃ K', K.Ext K' H H' ∧ Sh K' H' s (if fullS l k then l else putM l k x)) := by
  obtain ⟨b, hB, hM⟩ := hS.row
  have hf := hS.few
  have c0 : cel H s 0 = some (ptr b 0) := by rw [hB.cel]; rfl
  have hks := hS.ks
  refine ret_of Try.func13 rfl rfl rfl rfl ?_
  intro w0
  repeat (first | refine x_move rfl rfl rfl trivial ?_ | refine x_assign rfl rfl rfl trivial ?_ | refine x_peqn rfl rfl rfl rfl trivial ?_ | refine x_ibin rfl rfl rfl rfl rfl trivial ?_ | refine x_pick_t rfl rfl rfl rfl trivial ?_ | refine x_pick_f rfl rfl rfl rfl trivial ?_ | refine x_not rfl rfl rfl trivial ?_ | refine x_extract rfl rfl rfl rfl trivial ?_ | refine x_nilCheck rfl rfl rfl trivial ?_ | refine x_fieldAddr rfl rfl rfl rfl trivial ?_ | refine x_skip trivial rfl rfl rfl ?_ | refine x_nil ?_ | refine cw_seq ?_ | refine nw_seq ?_ | refine nw_block ?_ | refine cw_block ?_ | refine cw_skip ?_ | refine cw_region ?_ | refine cw_true rfl ?_ | refine cw_false rfl ?_)
  refine x_call rfl rfl rfl trivial (key_May hK.sl) ?_
  rintro _ _ ⟨rfl, rfl⟩
  refine ⟨trivial, ?_⟩
  rw [decide_eq_true hk]
  repeat (first | refine x_move rfl rfl rfl trivial ?_ | refine x_assign rfl rfl rfl trivial ?_ | refine x_peqn rfl rfl rfl rfl trivial ?_ | refine x_ibin rfl rfl rfl rfl rfl trivial ?_ | refine x_pick_t rfl rfl rfl rfl trivial ?_ | refine x_pick_f rfl rfl rfl rfl trivial ?_ | refine x_not rfl rfl rfl trivial ?_ | refine x_extract rfl rfl rfl rfl trivial ?_ | refine x_nilCheck rfl rfl rfl trivial ?_ | refine x_fieldAddr rfl rfl rfl rfl trivial ?_ | refine x_skip trivial rfl rfl rfl ?_ | refine x_nil ?_ | refine cw_seq ?_ | refine nw_seq ?_ | refine nw_block ?_ | refine cw_block ?_ | refine cw_skip ?_ | refine cw_region ?_ | refine cw_true rfl ?_ | refine cw_false rfl ?_)
  refine x_load rfl rfl (hpmt (c0)) rfl trivial ?_
  repeat (first | refine x_move rfl rfl rfl trivial ?_ | refine x_assign rfl rfl rfl trivial ?_ | refine x_peqn rfl rfl rfl rfl trivial ?_ | refine x_ibin rfl rfl rfl rfl rfl trivial ?_ | refine x_pick_t rfl rfl rfl rfl trivial ?_ | refine x_pick_f rfl rfl rfl rfl trivial ?_ | refine x_not rfl rfl rfl trivial ?_ | refine x_extract rfl rfl rfl rfl trivial ?_ | refine x_nilCheck rfl rfl rfl trivial ?_ | refine x_fieldAddr rfl rfl rfl rfl trivial ?_ | refine x_skip trivial rfl rfl rfl ?_ | refine x_nil ?_ | refine cw_seq ?_ | refine nw_seq ?_ | refine nw_block ?_ | refine cw_block ?_ | refine cw_skip ?_ | refine cw_region ?_ | refine cw_true rfl ?_ | refine cw_false rfl ?_)
  refine x_call rfl rfl rfl trivial (model_Get hM hS.rise (by omega) hK) ?_
  rintro _ H1 ⟨hk1, rfl⟩
  refine ⟨trivial, ?_⟩
  have c1 := hk1.cel c0 (fun h => h)
  have hS1 := hS.keepN hk1
  have hput : ¬ fullS l k → Ret Try.prog 35 [ptr b 0, vk, .int .u64 x] H1 (fun r H' => r = .tuple #[.int .u64 ((getM l k).getD 0), .bool (there l k), .int .i64 0] ∧ Keep (MutM K) H1 H' ∧ ∃ K', K.Ext K' H1 H' ∧ Sh K' H' s (putM l k x)) := fun hnf =>
    (model_Put x (hM.keepN hk1) hS.rise (by omega) (hK.keepN hk1) hk).mono fun r H' ⟨e, hk', K', hE, hM'⟩ => by
      have hlt := hB.lt
      have hs1 := hk1.size
      refine ⟨e, hk', K', hE, ⟨by rw [hE.old s (by omega)]; exact hks, ⟨b, (hB.keep hk1 (fun h => h)).keep hk' (fun e => by rcases e with e | e <;> omega), hM'⟩, ?_, putM_rises hS.rise k x, fun p hp => ?_⟩⟩
      · cases hth : there l k with
        | true => rw [putM_there hth, List.length_set]; exact hf
        | false =>
          have : l.length ≠ 8 := fun e => hnf ⟨hth, e⟩
          rw [putM_not hth]
          simp
          omega
      · rcases putM_mem hp with rfl | hp
        · exact hk
        · exact hS.keys p hp
  cases hth : there l k with
  | true =>
    have hnf : ¬ fullS l k := fun e => by have h := e.1; rw [hth] at h; cases h
    simp only [if_neg hnf]
    repeat (first | refine x_move rfl rfl rfl trivial ?_ | refine x_assign rfl rfl rfl trivial ?_ | refine x_peqn rfl rfl rfl rfl trivial ?_ | refine x_ibin rfl rfl rfl rfl rfl trivial ?_ | refine x_pick_t rfl rfl rfl rfl trivial ?_ | refine x_pick_f rfl rfl rfl rfl trivial ?_ | refine x_not rfl rfl rfl trivial ?_ | refine x_extract rfl rfl rfl rfl trivial ?_ | refine x_nilCheck rfl rfl rfl trivial ?_ | refine x_fieldAddr rfl rfl rfl rfl trivial ?_ | refine x_skip trivial rfl rfl rfl ?_ | refine x_nil ?_ | refine cw_seq ?_ | refine nw_seq ?_ | refine nw_block ?_ | refine cw_block ?_ | refine cw_skip ?_ | refine cw_region ?_ | refine cw_true rfl ?_ | refine cw_false rfl ?_)
    refine x_load rfl rfl (hpmt (c1)) rfl trivial ?_
    repeat (first | refine x_move rfl rfl rfl trivial ?_ | refine x_assign rfl rfl rfl trivial ?_ | refine x_peqn rfl rfl rfl rfl trivial ?_ | refine x_ibin rfl rfl rfl rfl rfl trivial ?_ | refine x_pick_t rfl rfl rfl rfl trivial ?_ | refine x_pick_f rfl rfl rfl rfl trivial ?_ | refine x_not rfl rfl rfl trivial ?_ | refine x_extract rfl rfl rfl rfl trivial ?_ | refine x_nilCheck rfl rfl rfl trivial ?_ | refine x_fieldAddr rfl rfl rfl rfl trivial ?_ | refine x_skip trivial rfl rfl rfl ?_ | refine x_nil ?_ | refine cw_seq ?_ | refine nw_seq ?_ | refine nw_block ?_ | refine cw_block ?_ | refine cw_skip ?_ | refine cw_region ?_ | refine cw_true rfl ?_ | refine cw_false rfl ?_)
    refine x_call rfl rfl rfl trivial (hput hnf) ?_
    rintro _ H2 ⟨rfl, hk2, K', hE, hS2⟩
    refine ⟨trivial, ?_⟩
    repeat (first | refine x_move rfl rfl rfl trivial ?_ | refine x_assign rfl rfl rfl trivial ?_ | refine x_peqn rfl rfl rfl rfl trivial ?_ | refine x_ibin rfl rfl rfl rfl rfl trivial ?_ | refine x_pick_t rfl rfl rfl rfl trivial ?_ | refine x_pick_f rfl rfl rfl rfl trivial ?_ | refine x_not rfl rfl rfl trivial ?_ | refine x_extract rfl rfl rfl rfl trivial ?_ | refine x_nilCheck rfl rfl rfl trivial ?_ | refine x_fieldAddr rfl rfl rfl rfl trivial ?_ | refine x_skip trivial rfl rfl rfl ?_ | refine x_nil ?_ | refine cw_seq ?_ | refine nw_seq ?_ | refine nw_block ?_ | refine cw_block ?_ | refine cw_skip ?_ | refine cw_region ?_ | refine cw_true rfl ?_ | refine cw_false rfl ?_)
    rw [hth]
    exact cw_ret3 rfl rfl rfl rfl ⟨rfl, (hk1.mono fun _ _ h => h.elim).step hk2 (fun _ _ e => e), K', ⟨fun z hz => hE.old z (by have := hk1.size; omega), by have := hk1.size; have := hE.size; omega⟩, hS2⟩
  | false =>
    repeat (first | refine x_move rfl rfl rfl trivial ?_ | refine x_assign rfl rfl rfl trivial ?_ | refine x_peqn rfl rfl rfl rfl trivial ?_ | refine x_ibin rfl rfl rfl rfl rfl trivial ?_ | refine x_pick_t rfl rfl rfl rfl trivial ?_ | refine x_pick_f rfl rfl rfl rfl trivial ?_ | refine x_not rfl rfl rfl trivial ?_ | refine x_extract rfl rfl rfl rfl trivial ?_ | refine x_nilCheck rfl rfl rfl trivial ?_ | refine x_fieldAddr rfl rfl rfl rfl trivial ?_ | refine x_skip trivial rfl rfl rfl ?_ | refine x_nil ?_ | refine cw_seq ?_ | refine nw_seq ?_ | refine nw_block ?_ | refine cw_block ?_ | refine cw_skip ?_ | refine cw_region ?_ | refine cw_true rfl ?_ | refine cw_false rfl ?_)
    refine x_load rfl rfl (hpmt (c1)) rfl trivial ?_
    repeat (first | refine x_move rfl rfl rfl trivial ?_ | refine x_assign rfl rfl rfl trivial ?_ | refine x_peqn rfl rfl rfl rfl trivial ?_ | refine x_ibin rfl rfl rfl rfl rfl trivial ?_ | refine x_pick_t rfl rfl rfl rfl trivial ?_ | refine x_pick_f rfl rfl rfl rfl trivial ?_ | refine x_not rfl rfl rfl trivial ?_ | refine x_extract rfl rfl rfl rfl trivial ?_ | refine x_nilCheck rfl rfl rfl trivial ?_ | refine x_fieldAddr rfl rfl rfl rfl trivial ?_ | refine x_skip trivial rfl rfl rfl ?_ | refine x_nil ?_ | refine cw_seq ?_ | refine nw_seq ?_ | refine nw_block ?_ | refine cw_block ?_ | refine cw_skip ?_ | refine cw_region ?_ | refine cw_true rfl ?_ | refine cw_false rfl ?_)
    refine x_call rfl rfl rfl trivial (model_Len (hM.keepN hk1)) ?_
    rintro _ _ ⟨rfl, rfl⟩
    refine ⟨trivial, ?_⟩
    repeat (first | refine x_move rfl rfl rfl trivial ?_ | refine x_assign rfl rfl rfl trivial ?_ | refine x_peqn rfl rfl rfl rfl trivial ?_ | refine x_ibin rfl rfl rfl rfl rfl trivial ?_ | refine x_pick_t rfl rfl rfl rfl trivial ?_ | refine x_pick_f rfl rfl rfl rfl trivial ?_ | refine x_not rfl rfl rfl trivial ?_ | refine x_extract rfl rfl rfl rfl trivial ?_ | refine x_nilCheck rfl rfl rfl trivial ?_ | refine x_fieldAddr rfl rfl rfl rfl trivial ?_ | refine x_skip trivial rfl rfl rfl ?_ | refine x_nil ?_ | refine cw_seq ?_ | refine nw_seq ?_ | refine nw_block ?_ | refine cw_block ?_ | refine cw_skip ?_ | refine cw_region ?_ | refine cw_true rfl ?_ | refine cw_false rfl ?_)
    refine cw_cond rfl (fun h2 => ?_) (fun h2 => ?_) <;> (try simp at h2)
    · have hfu : fullS l k := ⟨hth, by omega⟩
      simp only [if_pos hfu]
      repeat (first | refine x_move rfl rfl rfl trivial ?_ | refine x_assign rfl rfl rfl trivial ?_ | refine x_peqn rfl rfl rfl rfl trivial ?_ | refine x_ibin rfl rfl rfl rfl rfl trivial ?_ | refine x_pick_t rfl rfl rfl rfl trivial ?_ | refine x_pick_f rfl rfl rfl rfl trivial ?_ | refine x_not rfl rfl rfl trivial ?_ | refine x_extract rfl rfl rfl rfl trivial ?_ | refine x_nilCheck rfl rfl rfl trivial ?_ | refine x_fieldAddr rfl rfl rfl rfl trivial ?_ | refine x_skip trivial rfl rfl rfl ?_ | refine x_nil ?_ | refine cw_seq ?_ | refine nw_seq ?_ | refine nw_block ?_ | refine cw_block ?_ | refine cw_skip ?_ | refine cw_region ?_ | refine cw_true rfl ?_ | refine cw_false rfl ?_)
      exact cw_ret3 rfl rfl rfl rfl ⟨rfl, hk1.mono fun _ _ h => h.elim, K, (Role.Ext.refl K H).mono hk1.size, hS1⟩
    · have hnf : ¬ fullS l k := fun e => by have := e.2; omega
      simp only [if_neg hnf]
      repeat (first | refine x_move rfl rfl rfl trivial ?_ | refine x_assign rfl rfl rfl trivial ?_ | refine x_peqn rfl rfl rfl rfl trivial ?_ | refine x_ibin rfl rfl rfl rfl rfl trivial ?_ | refine x_pick_t rfl rfl rfl rfl trivial ?_ | refine x_pick_f rfl rfl rfl rfl trivial ?_ | refine x_not rfl rfl rfl trivial ?_ | refine x_extract rfl rfl rfl rfl trivial ?_ | refine x_nilCheck rfl rfl rfl trivial ?_ | refine x_fieldAddr rfl rfl rfl rfl trivial ?_ | refine x_skip trivial rfl rfl rfl ?_ | refine x_nil ?_ | refine cw_seq ?_ | refine nw_seq ?_ | refine nw_block ?_ | refine cw_block ?_ | refine cw_skip ?_ | refine cw_region ?_ | refine cw_true rfl ?_ | refine cw_false rfl ?_)
      refine x_load rfl rfl (hpmt (c1)) rfl trivial ?_
      repeat (first | refine x_move rfl rfl rfl trivial ?_ | refine x_assign rfl rfl rfl trivial ?_ | refine x_peqn rfl rfl rfl rfl trivial ?_ | refine x_ibin rfl rfl rfl rfl rfl trivial ?_ | refine x_pick_t rfl rfl rfl rfl trivial ?_ | refine x_pick_f rfl rfl rfl rfl trivial ?_ | refine x_not rfl rfl rfl trivial ?_ | refine x_extract rfl rfl rfl rfl trivial ?_ | refine x_nilCheck rfl rfl rfl trivial ?_ | refine x_fieldAddr rfl rfl rfl rfl trivial ?_ | refine x_skip trivial rfl rfl rfl ?_ | refine x_nil ?_ | refine cw_seq ?_ | refine nw_seq ?_ | refine nw_block ?_ | refine cw_block ?_ | refine cw_skip ?_ | refine cw_region ?_ | refine cw_true rfl ?_ | refine cw_false rfl ?_)
      refine x_call rfl rfl rfl trivial (hput hnf) ?_
      rintro _ H2 ⟨rfl, hk2, K', hE, hS2⟩
      refine ⟨trivial, ?_⟩
      repeat (first | refine x_move rfl rfl rfl trivial ?_ | refine x_assign rfl rfl rfl trivial ?_ | refine x_peqn rfl rfl rfl rfl trivial ?_ | refine x_ibin rfl rfl rfl rfl rfl trivial ?_ | refine x_pick_t rfl rfl rfl rfl trivial ?_ | refine x_pick_f rfl rfl rfl rfl trivial ?_ | refine x_not rfl rfl rfl trivial ?_ | refine x_extract rfl rfl rfl rfl trivial ?_ | refine x_nilCheck rfl rfl rfl trivial ?_ | refine x_fieldAddr rfl rfl rfl rfl trivial ?_ | refine x_skip trivial rfl rfl rfl ?_ | refine x_nil ?_ | refine cw_seq ?_ | refine nw_seq ?_ | refine nw_block ?_ | refine cw_block ?_ | refine cw_skip ?_ | refine cw_region ?_ | refine cw_true rfl ?_ | refine cw_false rfl ?_)
      rw [hth]
      exact cw_ret3 rfl rfl rfl rfl ⟨rfl, (hk1.mono fun _ _ h => h.elim).step hk2 (fun _ _ e => e), K', ⟨fun z hz => hE.old z (by have := hk1.size; omega), by have := hk1.size; have := hE.size; omega⟩, hS2⟩

theorem newM_self {l : List Pr} (h : rises l = true) : newM l = l := by
  have key : ∀ (r m : List Pr), rises (m ++ r) = true → r.foldl (fun m p => putM m p.1 p.2) m = m ++ r := by
    intro r
    induction r with
    | nil => intro m _; simp
    | cons p r ih =>
      intro m hm
      have hpw := rises_pw.1 hm
      have hlt : ∀ q ∈ m, cmpB q.1 p.1 = -1 := fun q hq => (List.pairwise_append.1 hpw).2.2 q hq p (by simp)
      have hrk : rank m p.1 = m.length := rank_at (Nat.le_refl _) (fun i q _ hq => hlt q (List.mem_of_getElem? hq)) (fun q hq => by rw [List.getElem?_eq_none (Nat.le_refl _)] at hq; cases hq)
      have hth : there m p.1 = false := there_end (by omega)
      have e : putM m p.1 p.2 = m ++ [p] := by rw [putM_not hth, hrk]; simp
      rw [List.foldl_cons, e, ih (m ++ [p]) (by simpa using hm)]
      simp
  simpa [newM] using key l [] (by simpa using h)
/-- are these pairs of a shelf? (keys that may be) -/
theorem shelf_New {va : Value} {l : List Pr} {H : Heap} (hA : Ps H va l) (hl : l.length ≤ 10000) (hk : ∀ p ∈ l, p.1.length ≤ 65535) :
    Ret Try.prog 10 [va] H (fun v H' => Keep Non H H' ∧ ((¬ (l.length ≤ 8 ∧ rises l = true) ∧ v = .pointer none) ∨ ((l.length ≤ 8 ∧ rises l = true) ∧ ∃ s K, v = ptr s 0 ∧ Role.From K H.size ∧ Sh K H' s l))) := by
  have sA := hA.sl
  have cA := sA.cap
  refine ret_of Try.func10 rfl rfl rfl rfl ?_
  intro w0
  repeat (first | refine x_move rfl rfl rfl trivial ?_ | refine x_assign rfl rfl rfl trivial ?_ | refine x_add rfl rfl rfl (wrap_i64 (by omega) (by omega)) rfl trivial ?_ | refine x_ibin rfl rfl rfl rfl rfl trivial ?_ | refine x_len rfl rfl (by assumption) rfl trivial ?_ | refine x_pick_t rfl rfl rfl rfl trivial ?_ | refine x_pick_f rfl rfl rfl rfl trivial ?_ | refine x_not rfl rfl rfl trivial ?_ | refine x_fieldAddr rfl rfl rfl rfl trivial ?_ | refine x_skip trivial rfl rfl rfl ?_ | refine x_indexAddr1 rfl rfl rfl (by assumption) (by omega) (by omega) rfl trivial ?_ | refine x_indexAddr rfl rfl rfl (by assumption) (by omega) (by omega) rfl trivial ?_ | refine x_nil ?_ | refine cw_seq ?_ | refine nw_seq ?_ | refine nw_block ?_ | refine cw_block ?_ | refine cw_skip ?_ | refine cw_region ?_ | refine cw_exit rfl ?_ | refine cw_true rfl ?_ | refine cw_false rfl ?_)
  refine x_split 8 rfl (fun h1 => ?_) (fun h1 => ?_) <;> (try simp at h1)
  · repeat (first | refine x_move rfl rfl rfl trivial ?_ | refine x_assign rfl rfl rfl trivial ?_ | refine x_add rfl rfl rfl (wrap_i64 (by omega) (by omega)) rfl trivial ?_ | refine x_ibin rfl rfl rfl rfl rfl trivial ?_ | refine x_len rfl rfl (by assumption) rfl trivial ?_ | refine x_pick_t rfl rfl rfl rfl trivial ?_ | refine x_pick_f rfl rfl rfl rfl trivial ?_ | refine x_not rfl rfl rfl trivial ?_ | refine x_fieldAddr rfl rfl rfl rfl trivial ?_ | refine x_skip trivial rfl rfl rfl ?_ | refine x_indexAddr1 rfl rfl rfl (by assumption) (by omega) (by omega) rfl trivial ?_ | refine x_indexAddr rfl rfl rfl (by assumption) (by omega) (by omega) rfl trivial ?_ | refine x_nil ?_ | refine cw_seq ?_ | refine nw_seq ?_ | refine nw_block ?_ | refine cw_block ?_ | refine cw_skip ?_ | refine cw_region ?_ | refine cw_exit rfl ?_ | refine cw_true rfl ?_ | refine cw_false rfl ?_)
    exact cw_ret1 rfl rfl ⟨Keep.refl _ _, .inl ⟨fun e => by omega, rfl⟩⟩
  · repeat (first | refine x_move rfl rfl rfl trivial ?_ | refine x_assign rfl rfl rfl trivial ?_ | refine x_add rfl rfl rfl (wrap_i64 (by omega) (by omega)) rfl trivial ?_ | refine x_ibin rfl rfl rfl rfl rfl trivial ?_ | refine x_len rfl rfl (by assumption) rfl trivial ?_ | refine x_pick_t rfl rfl rfl rfl trivial ?_ | refine x_pick_f rfl rfl rfl rfl trivial ?_ | refine x_not rfl rfl rfl trivial ?_ | refine x_fieldAddr rfl rfl rfl rfl trivial ?_ | refine x_skip trivial rfl rfl rfl ?_ | refine x_indexAddr1 rfl rfl rfl (by assumption) (by omega) (by omega) rfl trivial ?_ | refine x_indexAddr rfl rfl rfl (by assumption) (by omega) (by omega) rfl trivial ?_ | refine x_nil ?_ | refine cw_seq ?_ | refine nw_seq ?_ | refine nw_block ?_ | refine cw_block ?_ | refine cw_skip ?_ | refine cw_region ?_ | refine cw_exit rfl ?_ | refine cw_true rfl ?_ | refine cw_false rfl ?_)
    refine x_call rfl rfl rfl trivial (model_Rises hA) ?_
    rintro _ _ ⟨rfl, rfl⟩
    refine ⟨trivial, ?_⟩
    repeat (first | refine x_move rfl rfl rfl trivial ?_ | refine x_assign rfl rfl rfl trivial ?_ | refine x_add rfl rfl rfl (wrap_i64 (by omega) (by omega)) rfl trivial ?_ | refine x_ibin rfl rfl rfl rfl rfl trivial ?_ | refine x_len rfl rfl (by assumption) rfl trivial ?_ | refine x_pick_t rfl rfl rfl rfl trivial ?_ | refine x_pick_f rfl rfl rfl rfl trivial ?_ | refine x_not rfl rfl rfl trivial ?_ | refine x_fieldAddr rfl rfl rfl rfl trivial ?_ | refine x_skip trivial rfl rfl rfl ?_ | refine x_indexAddr1 rfl rfl rfl (by assumption) (by omega) (by omega) rfl trivial ?_ | refine x_indexAddr rfl rfl rfl (by assumption) (by omega) (by omega) rfl trivial ?_ | refine x_nil ?_ | refine cw_seq ?_ | refine nw_seq ?_ | refine nw_block ?_ | refine cw_block ?_ | refine cw_skip ?_ | refine cw_region ?_ | refine cw_exit rfl ?_ | refine cw_true rfl ?_ | refine cw_false rfl ?_)
    cases hr : rises l with
    | false =>
      repeat (first | refine x_move rfl rfl rfl trivial ?_ | refine x_assign rfl rfl rfl trivial ?_ | refine x_add rfl rfl rfl (wrap_i64 (by omega) (by omega)) rfl trivial ?_ | refine x_ibin rfl rfl rfl rfl rfl trivial ?_ | refine x_len rfl rfl (by assumption) rfl trivial ?_ | refine x_pick_t rfl rfl rfl rfl trivial ?_ | refine x_pick_f rfl rfl rfl rfl trivial ?_ | refine x_not rfl rfl rfl trivial ?_ | refine x_fieldAddr rfl rfl rfl rfl trivial ?_ | refine x_skip trivial rfl rfl rfl ?_ | refine x_indexAddr1 rfl rfl rfl (by assumption) (by omega) (by omega) rfl trivial ?_ | refine x_indexAddr rfl rfl rfl (by assumption) (by omega) (by omega) rfl trivial ?_ | refine x_nil ?_ | refine cw_seq ?_ | refine nw_seq ?_ | refine nw_block ?_ | refine cw_block ?_ | refine cw_skip ?_ | refine cw_region ?_ | refine cw_exit rfl ?_ | refine cw_true rfl ?_ | refine cw_false rfl ?_)
      exact cw_ret1 rfl rfl ⟨Keep.refl _ _, .inl ⟨fun e => by simp at e, rfl⟩⟩
    | true =>
      repeat (first | refine x_move rfl rfl rfl trivial ?_ | refine x_assign rfl rfl rfl trivial ?_ | refine x_add rfl rfl rfl (wrap_i64 (by omega) (by omega)) rfl trivial ?_ | refine x_ibin rfl rfl rfl rfl rfl trivial ?_ | refine x_len rfl rfl (by assumption) rfl trivial ?_ | refine x_pick_t rfl rfl rfl rfl trivial ?_ | refine x_pick_f rfl rfl rfl rfl trivial ?_ | refine x_not rfl rfl rfl trivial ?_ | refine x_fieldAddr rfl rfl rfl rfl trivial ?_ | refine x_skip trivial rfl rfl rfl ?_ | refine x_indexAddr1 rfl rfl rfl (by assumption) (by omega) (by omega) rfl trivial ?_ | refine x_indexAddr rfl rfl rfl (by assumption) (by omega) (by omega) rfl trivial ?_ | refine x_nil ?_ | refine cw_seq ?_ | refine nw_seq ?_ | refine nw_block ?_ | refine cw_block ?_ | refine cw_skip ?_ | refine cw_region ?_ | refine cw_exit rfl ?_ | refine cw_true rfl ?_ | refine cw_false rfl ?_)
      refine cw_loop (fun j : Nat => [(0, va), (13, va), (14, .int .i64 l.length), (15, .int .i64 j)]) (fun j H' => j ≤ l.length ∧ Keep Non H H') (fun j => l.length - j) 0 (by repeat (first | exact True.intro | refine ⟨rfl, ?_⟩)) ⟨Nat.zero_le _, Keep.refl _ _⟩ ?_
      rintro j H1 ⟨hj, hk1⟩
      repeat (first | refine x_move rfl rfl rfl trivial ?_ | refine x_assign rfl rfl rfl trivial ?_ | refine x_add rfl rfl rfl (wrap_i64 (by omega) (by omega)) rfl trivial ?_ | refine x_ibin rfl rfl rfl rfl rfl trivial ?_ | refine x_len rfl rfl (by assumption) rfl trivial ?_ | refine x_pick_t rfl rfl rfl rfl trivial ?_ | refine x_pick_f rfl rfl rfl rfl trivial ?_ | refine x_not rfl rfl rfl trivial ?_ | refine x_fieldAddr rfl rfl rfl rfl trivial ?_ | refine x_skip trivial rfl rfl rfl ?_ | refine x_indexAddr1 rfl rfl rfl (by assumption) (by omega) (by omega) rfl trivial ?_ | refine x_indexAddr rfl rfl rfl (by assumption) (by omega) (by omega) rfl trivial ?_ | refine x_nil ?_ | refine cw_seq ?_ | refine nw_seq ?_ | refine nw_block ?_ | refine cw_block ?_ | refine cw_skip ?_ | refine cw_region ?_ | refine cw_exit rfl ?_ | refine cw_true rfl ?_ | refine cw_false rfl ?_)
      refine cw_cond rfl (fun h2 => ?_) (fun h2 => ?_) <;> (try simp at h2)
      · obtain ⟨p, hp⟩ := getp (l := l) h2
        obtain ⟨kk, a1, a2, a3⟩ := (hA.keepN hk1).at_ j p hp
        have hpl := hk p (List.mem_of_getElem? hp)
        repeat (first | refine x_move rfl rfl rfl trivial ?_ | refine x_assign rfl rfl rfl trivial ?_ | refine x_add rfl rfl rfl (wrap_i64 (by omega) (by omega)) rfl trivial ?_ | refine x_ibin rfl rfl rfl rfl rfl trivial ?_ | refine x_len rfl rfl (by assumption) rfl trivial ?_ | refine x_pick_t rfl rfl rfl rfl trivial ?_ | refine x_pick_f rfl rfl rfl rfl trivial ?_ | refine x_not rfl rfl rfl trivial ?_ | refine x_fieldAddr rfl rfl rfl rfl trivial ?_ | refine x_skip trivial rfl rfl rfl ?_ | refine x_indexAddr1 rfl rfl rfl (by assumption) (by omega) (by omega) rfl trivial ?_ | refine x_indexAddr rfl rfl rfl (by assumption) (by omega) (by omega) rfl trivial ?_ | refine x_nil ?_ | refine cw_seq ?_ | refine nw_seq ?_ | refine nw_block ?_ | refine cw_block ?_ | refine cw_skip ?_ | refine cw_region ?_ | refine cw_exit rfl ?_ | refine cw_true rfl ?_ | refine cw_false rfl ?_)
        refine x_loads (cs := [kk, .int .u64 p.2]) rfl rfl rfl (hpmt (cels_two a1 a2)) rfl trivial ?_
        refine x_alloc rfl rfl trivial ?_
        intro H3 hn3
        refine ⟨trivial, ?_⟩
        refine x_stores rfl rfl rfl rfl (two_oneC' (isSl_oneC a3.sl)) hn3.blk (by simp) trivial ?_
        intro H4 hB4 hk4 hs4
        refine ⟨trivial, ?_⟩
        have hk14 : Keep Non H1 H4 := keep_at hn3.keep hk4 (Nat.le_refl _)
        have c0 : cel H4 H1.size 0 = some kk := by rw [hB4.cel]; rfl
        repeat (first | refine x_move rfl rfl rfl trivial ?_ | refine x_assign rfl rfl rfl trivial ?_ | refine x_add rfl rfl rfl (wrap_i64 (by omega) (by omega)) rfl trivial ?_ | refine x_ibin rfl rfl rfl rfl rfl trivial ?_ | refine x_len rfl rfl (by assumption) rfl trivial ?_ | refine x_pick_t rfl rfl rfl rfl trivial ?_ | refine x_pick_f rfl rfl rfl rfl trivial ?_ | refine x_not rfl rfl rfl trivial ?_ | refine x_fieldAddr rfl rfl rfl rfl trivial ?_ | refine x_skip trivial rfl rfl rfl ?_ | refine x_indexAddr1 rfl rfl rfl (by assumption) (by omega) (by omega) rfl trivial ?_ | refine x_indexAddr rfl rfl rfl (by assumption) (by omega) (by omega) rfl trivial ?_ | refine x_nil ?_ | refine cw_seq ?_ | refine nw_seq ?_ | refine nw_block ?_ | refine cw_block ?_ | refine cw_skip ?_ | refine cw_region ?_ | refine cw_exit rfl ?_ | refine cw_true rfl ?_ | refine cw_false rfl ?_)
        refine x_load rfl rfl (hpmt (c0)) rfl trivial ?_
        repeat (first | refine x_move rfl rfl rfl trivial ?_ | refine x_assign rfl rfl rfl trivial ?_ | refine x_add rfl rfl rfl (wrap_i64 (by omega) (by omega)) rfl trivial ?_ | refine x_ibin rfl rfl rfl rfl rfl trivial ?_ | refine x_len rfl rfl (by assumption) rfl trivial ?_ | refine x_pick_t rfl rfl rfl rfl trivial ?_ | refine x_pick_f rfl rfl rfl rfl trivial ?_ | refine x_not rfl rfl rfl trivial ?_ | refine x_fieldAddr rfl rfl rfl rfl trivial ?_ | refine x_skip trivial rfl rfl rfl ?_ | refine x_indexAddr1 rfl rfl rfl (by assumption) (by omega) (by omega) rfl trivial ?_ | refine x_indexAddr rfl rfl rfl (by assumption) (by omega) (by omega) rfl trivial ?_ | refine x_nil ?_ | refine cw_seq ?_ | refine nw_seq ?_ | refine nw_block ?_ | refine cw_block ?_ | refine cw_skip ?_ | refine cw_region ?_ | refine cw_exit rfl ?_ | refine cw_true rfl ?_ | refine cw_false rfl ?_)
        refine x_call rfl rfl rfl trivial (key_May a3.sl) ?_
        rintro _ _ ⟨rfl, rfl⟩
        refine ⟨trivial, ?_⟩
        rw [decide_eq_true hpl]
        repeat (first | refine x_move rfl rfl rfl trivial ?_ | refine x_assign rfl rfl rfl trivial ?_ | refine x_add rfl rfl rfl (wrap_i64 (by omega) (by omega)) rfl trivial ?_ | refine x_ibin rfl rfl rfl rfl rfl trivial ?_ | refine x_len rfl rfl (by assumption) rfl trivial ?_ | refine x_pick_t rfl rfl rfl rfl trivial ?_ | refine x_pick_f rfl rfl rfl rfl trivial ?_ | refine x_not rfl rfl rfl trivial ?_ | refine x_fieldAddr rfl rfl rfl rfl trivial ?_ | refine x_skip trivial rfl rfl rfl ?_ | refine x_indexAddr1 rfl rfl rfl (by assumption) (by omega) (by omega) rfl trivial ?_ | refine x_indexAddr rfl rfl rfl (by assumption) (by omega) (by omega) rfl trivial ?_ | refine x_nil ?_ | refine cw_seq ?_ | refine nw_seq ?_ | refine nw_block ?_ | refine cw_block ?_ | refine cw_skip ?_ | refine cw_region ?_ | refine cw_exit rfl ?_ | refine cw_true rfl ?_ | refine cw_false rfl ?_)
        exact nw_round (j + 1) (by repeat (first | exact True.intro | refine ⟨rfl, ?_⟩)) ⟨by omega, hk1.non_trans hk14⟩ (by omega)
      · repeat (first | refine x_move rfl rfl rfl trivial ?_ | refine x_assign rfl rfl rfl trivial ?_ | refine x_add rfl rfl rfl (wrap_i64 (by omega) (by omega)) rfl trivial ?_ | refine x_ibin rfl rfl rfl rfl rfl trivial ?_ | refine x_len rfl rfl (by assumption) rfl trivial ?_ | refine x_pick_t rfl rfl rfl rfl trivial ?_ | refine x_pick_f rfl rfl rfl rfl trivial ?_ | refine x_not rfl rfl rfl trivial ?_ | refine x_fieldAddr rfl rfl rfl rfl trivial ?_ | refine x_skip trivial rfl rfl rfl ?_ | refine x_indexAddr1 rfl rfl rfl (by assumption) (by omega) (by omega) rfl trivial ?_ | refine x_indexAddr rfl rfl rfl (by assumption) (by omega) (by omega) rfl trivial ?_ | refine x_nil ?_ | refine cw_seq ?_ | refine nw_seq ?_ | refine nw_block ?_ | refine cw_block ?_ | refine cw_skip ?_ | refine cw_region ?_ | refine cw_exit rfl ?_ | refine cw_true rfl ?_ | refine cw_false rfl ?_)
        refine x_call rfl rfl rfl trivial (model_New (hA.keepN hk1) hl hk) ?_
        rintro _ H2 ⟨hk2, b, K, rfl, hF, hM⟩
        refine ⟨trivial, ?_⟩
        have hs1 := hk1.size
        have hs2 := hk2.size
        rw [newM_self hr] at hM
        repeat (first | refine x_move rfl rfl rfl trivial ?_ | refine x_assign rfl rfl rfl trivial ?_ | refine x_add rfl rfl rfl (wrap_i64 (by omega) (by omega)) rfl trivial ?_ | refine x_ibin rfl rfl rfl rfl rfl trivial ?_ | refine x_len rfl rfl (by assumption) rfl trivial ?_ | refine x_pick_t rfl rfl rfl rfl trivial ?_ | refine x_pick_f rfl rfl rfl rfl trivial ?_ | refine x_not rfl rfl rfl trivial ?_ | refine x_fieldAddr rfl rfl rfl rfl trivial ?_ | refine x_skip trivial rfl rfl rfl ?_ | refine x_indexAddr1 rfl rfl rfl (by assumption) (by omega) (by omega) rfl trivial ?_ | refine x_indexAddr rfl rfl rfl (by assumption) (by omega) (by omega) rfl trivial ?_ | refine x_nil ?_ | refine cw_seq ?_ | refine nw_seq ?_ | refine nw_block ?_ | refine cw_block ?_ | refine cw_skip ?_ | refine cw_region ?_ | refine cw_exit rfl ?_ | refine cw_true rfl ?_ | refine cw_false rfl ?_)
        refine x_build (cs := [ptr b 0]) rfl rfl rfl (by simp [oneC, Value.oneCell']) rfl trivial ?_
        refine x_box rfl rfl rfl trivial ?_
        intro H3 hn3
        refine ⟨trivial, ?_⟩
        have hs3 := hn3.size
        repeat (first | refine x_move rfl rfl rfl trivial ?_ | refine x_assign rfl rfl rfl trivial ?_ | refine x_add rfl rfl rfl (wrap_i64 (by omega) (by omega)) rfl trivial ?_ | refine x_ibin rfl rfl rfl rfl rfl trivial ?_ | refine x_len rfl rfl (by assumption) rfl trivial ?_ | refine x_pick_t rfl rfl rfl rfl trivial ?_ | refine x_pick_f rfl rfl rfl rfl trivial ?_ | refine x_not rfl rfl rfl trivial ?_ | refine x_fieldAddr rfl rfl rfl rfl trivial ?_ | refine x_skip trivial rfl rfl rfl ?_ | refine x_indexAddr1 rfl rfl rfl (by assumption) (by omega) (by omega) rfl trivial ?_ | refine x_indexAddr rfl rfl rfl (by assumption) (by omega) (by omega) rfl trivial ?_ | refine x_nil ?_ | refine cw_seq ?_ | refine nw_seq ?_ | refine nw_block ?_ | refine cw_block ?_ | refine cw_skip ?_ | refine cw_region ?_ | refine cw_exit rfl ?_ | refine cw_true rfl ?_ | refine cw_false rfl ?_)
        have hnew : ∀ x, K x ≠ 0 → x ≠ H2.size := fun x hx e => by have := hM.kin x hx; omega
        have hM3 : Mo (K.set H2.size 4) H3 b l := (hM.keepN hn3.keep).role (Role.In.set (hM.kin.mono hn3.keep.size) (by omega)) (fun x hx => Role.set_ne _ (hnew x hx))
        refine cw_ret1 rfl rfl ⟨(hk1.non_trans hk2).non_trans hn3.keep, .inr ⟨⟨by omega, rfl⟩, H2.size, K.set H2.size 4, rfl, fun x hx => ?_, ⟨Role.set_at _ _ _, ⟨b, hn3.blk, hM3⟩, by omega, hr, hk⟩⟩⟩
        by_cases e : x = H2.size
        · omega
        · rw [Role.set_ne _ e] at hx
          have := hF x hx
          omega
end Go.Proofs.Ytngnoapfmfneaaa.X
