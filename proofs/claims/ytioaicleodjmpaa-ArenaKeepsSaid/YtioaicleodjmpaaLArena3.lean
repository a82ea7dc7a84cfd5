/- The statements on arena: the walk of ArenaKeeps. -/
import Derived.Test.YtioaicleodjmpaaLArena
namespace Go.Proofs.Ytioaicleodjmpaa.X
open Go Go.Proofs
set_option linter.unusedVariables false
set_option maxRecDepth 10000
set_option maxHeartbeats 4000000

def w64 (i : Nat) : Int := IntKind.u64.wrap (i : Int)
def s64 (n : Int) (i : Nat) : Int := IntKind.u64.wrap (n + w64 i)
/-- the i-th bit -/
def bt (give : Int) (i : Nat) : Int := IntKind.i64.wrap ((BitVec.ofInt IntKind.i64.bits (give.fdiv (2 ^ (min ((i : Int)).toNat IntKind.i64.bits))) &&& BitVec.ofInt IntKind.i64.bits 1).toNat : Int)
theorem bt_01 (give : Int) (i : Nat) : bt give i = 0 ∨ bt give i = 1 := by
  unfold bt
  generalize BitVec.ofInt IntKind.i64.bits (give.fdiv (2 ^ (min ((i : Int)).toNat IntKind.i64.bits))) = x
  have h : (x &&& BitVec.ofInt IntKind.i64.bits 1).toNat = x.toNat % 2 := by
    rw [BitVec.toNat_and]
    have : (BitVec.ofInt IntKind.i64.bits 1).toNat = 1 := by decide
    rw [this, Nat.and_one_is_mod]
  rw [h, wrap_i64 (by omega) (by omega)]
  omega
def kC (n : Int) (j : Nat) : Ce := ([n, w64 j, s64 n j], true)
/-- the cells of ArenaKeeps, the first k of them given back, or not -/
structure KA (n give : Int) (m k : Nat) (a : Ar) : Prop where
  wf : a.Wf
  most : a.most = m
  len : a.cs.length = m
  back : a.back.length ≤ k
  at_ : ∀ j, j < m → a.cs[j]? = some (if j < k ∧ bt give j = 1 then ([], false) else kC n j)

theorem walk_ArenaKeeps {many give n : Int} {H : Heap} : Ret Try.prog 6 [.int .i64 many, .int .i64 give, .int .u64 n] H (Yes H) := by
  refine ret_of Try.func6 rfl rfl rfl rfl ?_
  intro w0
  repeat (first
    | refine x_move rfl rfl rfl trivial ?_
    | refine x_assign rfl rfl rfl trivial ?_
    | refine x_add rfl rfl rfl (wrap_i64 (by omega) (by omega)) rfl trivial ?_
    | refine x_sub_ rfl rfl rfl (wrap_i64 (by omega) (by omega)) rfl trivial ?_
    | refine x_sub_ rfl rfl rfl (wrap_u32 (by omega) (by omega)) rfl trivial ?_
    | refine x_add rfl rfl rfl (wrap_u32 (by omega) (by omega)) rfl trivial ?_
    | refine x_peqn rfl rfl rfl rfl trivial ?_
    | refine x_pnen rfl rfl rfl rfl trivial ?_
    | refine x_mul rfl rfl rfl (wrap_i64 (by omega) (by omega)) rfl trivial ?_
    | refine x_ibin rfl rfl rfl rfl rfl trivial ?_
    | refine x_neg_ rfl rfl (wrap_i64 (by omega) (by omega)) rfl trivial ?_
    | refine x_len rfl rfl (by assumption) rfl trivial ?_
    | refine x_pick_t rfl rfl rfl rfl trivial ?_
    | refine x_pick_f rfl rfl rfl rfl trivial ?_
    | refine x_not rfl rfl rfl trivial ?_
    | refine x_beq rfl rfl rfl rfl trivial ?_
    | refine x_bne rfl rfl rfl rfl trivial ?_
    | refine x_extract rfl rfl rfl rfl trivial ?_
    | refine x_nilCheck rfl rfl rfl trivial ?_
    | refine x_fieldAddr rfl rfl rfl rfl trivial ?_
    | refine x_skip trivial rfl rfl rfl ?_
    | refine x_indexAddr1 rfl rfl rfl (by assumption) (by omega) (by omega) rfl trivial ?_
    | refine x_indexAddr rfl rfl rfl (by assumption) (by omega) (by omega) rfl trivial ?_
    | refine x_nil ?_
    | refine cw_seq ?_
    | refine nw_seq ?_
    | refine nw_block ?_
    | refine cw_block ?_
    | refine cw_skip ?_
    | refine cw_region ?_
    | refine cw_exit rfl ?_
    | refine cw_true rfl ?_
    | refine cw_false rfl ?_)
  refine x_call rfl rfl rfl trivial (law_LowF many 31 (by omega) H) ?_
  rintro _ _ ⟨rfl, rfl⟩
  refine ⟨trivial, ?_⟩
  have b1 := low_bd many (m := 31) (by omega)
  obtain ⟨m, hm⟩ : ∃ m : Nat, low many 31 = (m : Int) := ⟨(low many 31).toNat, by omega⟩
  rw [hm] at b1 ⊢
  repeat (first
    | refine x_move rfl rfl rfl trivial ?_
    | refine x_assign rfl rfl rfl trivial ?_
    | refine x_add rfl rfl rfl (wrap_i64 (by omega) (by omega)) rfl trivial ?_
    | refine x_sub_ rfl rfl rfl (wrap_i64 (by omega) (by omega)) rfl trivial ?_
    | refine x_sub_ rfl rfl rfl (wrap_u32 (by omega) (by omega)) rfl trivial ?_
    | refine x_add rfl rfl rfl (wrap_u32 (by omega) (by omega)) rfl trivial ?_
    | refine x_peqn rfl rfl rfl rfl trivial ?_
    | refine x_pnen rfl rfl rfl rfl trivial ?_
    | refine x_mul rfl rfl rfl (wrap_i64 (by omega) (by omega)) rfl trivial ?_
    | refine x_ibin rfl rfl rfl rfl rfl trivial ?_
    | refine x_neg_ rfl rfl (wrap_i64 (by omega) (by omega)) rfl trivial ?_
    | refine x_len rfl rfl (by assumption) rfl trivial ?_
    | refine x_pick_t rfl rfl rfl rfl trivial ?_
    | refine x_pick_f rfl rfl rfl rfl trivial ?_
    | refine x_not rfl rfl rfl trivial ?_
    | refine x_beq rfl rfl rfl rfl trivial ?_
    | refine x_bne rfl rfl rfl rfl trivial ?_
    | refine x_extract rfl rfl rfl rfl trivial ?_
    | refine x_nilCheck rfl rfl rfl trivial ?_
    | refine x_fieldAddr rfl rfl rfl rfl trivial ?_
    | refine x_skip trivial rfl rfl rfl ?_
    | refine x_indexAddr1 rfl rfl rfl (by assumption) (by omega) (by omega) rfl trivial ?_
    | refine x_indexAddr rfl rfl rfl (by assumption) (by omega) (by omega) rfl trivial ?_
    | refine x_nil ?_
    | refine cw_seq ?_
    | refine nw_seq ?_
    | refine nw_block ?_
    | refine cw_block ?_
    | refine cw_skip ?_
    | refine cw_region ?_
    | refine cw_exit rfl ?_
    | refine cw_true rfl ?_
    | refine cw_false rfl ?_)
  refine x_call rfl rfl rfl trivial (as_New (m : Int) (by omega) H) ?_
  rintro _ H1 ⟨b, rfl, hA1⟩
  refine ⟨trivial, ?_⟩
  have hA1' : As (Zn (.slice none 0 0)) H H1 b ⟨m, [], []⟩ := hA1.step (Keep.refl Non H1) (fun _ h => h) (fun x e => by have := e.2; simp [sc] at this)
  repeat (first
    | refine x_move rfl rfl rfl trivial ?_
    | refine x_assign rfl rfl rfl trivial ?_
    | refine x_add rfl rfl rfl (wrap_i64 (by omega) (by omega)) rfl trivial ?_
    | refine x_sub_ rfl rfl rfl (wrap_i64 (by omega) (by omega)) rfl trivial ?_
    | refine x_sub_ rfl rfl rfl (wrap_u32 (by omega) (by omega)) rfl trivial ?_
    | refine x_add rfl rfl rfl (wrap_u32 (by omega) (by omega)) rfl trivial ?_
    | refine x_peqn rfl rfl rfl rfl trivial ?_
    | refine x_pnen rfl rfl rfl rfl trivial ?_
    | refine x_mul rfl rfl rfl (wrap_i64 (by omega) (by omega)) rfl trivial ?_
    | refine x_ibin rfl rfl rfl rfl rfl trivial ?_
    | refine x_neg_ rfl rfl (wrap_i64 (by omega) (by omega)) rfl trivial ?_
    | refine x_len rfl rfl (by assumption) rfl trivial ?_
    | refine x_pick_t rfl rfl rfl rfl trivial ?_
    | refine x_pick_f rfl rfl rfl rfl trivial ?_
    | refine x_not rfl rfl rfl trivial ?_
    | refine x_beq rfl rfl rfl rfl trivial ?_
    | refine x_bne rfl rfl rfl rfl trivial ?_
    | refine x_extract rfl rfl rfl rfl trivial ?_
    | refine x_nilCheck rfl rfl rfl trivial ?_
    | refine x_fieldAddr rfl rfl rfl rfl trivial ?_
    | refine x_skip trivial rfl rfl rfl ?_
    | refine x_indexAddr1 rfl rfl rfl (by assumption) (by omega) (by omega) rfl trivial ?_
    | refine x_indexAddr rfl rfl rfl (by assumption) (by omega) (by omega) rfl trivial ?_
    | refine x_nil ?_
    | refine cw_seq ?_
    | refine nw_seq ?_
    | refine nw_block ?_
    | refine cw_block ?_
    | refine cw_skip ?_
    | refine cw_region ?_
    | refine cw_exit rfl ?_
    | refine cw_true rfl ?_
    | refine cw_false rfl ?_)
  refine cw_loop (fun s : Nat × Value => [(0, .int .i64 m), (1, .int .i64 give), (2, .int .u64 n), (7, ptr b 0), (8, s.2), (9, .int .i64 s.1)])
    (fun s H' => s.1 ≤ m ∧ As (Zn s.2) H H' b ⟨m, (List.range s.1).map (kC n), []⟩ ∧ Rw encU 1 Eq H' s.2 (List.range' 1 s.1)) (fun s => m - s.1) (0, _) (by repeat (first | exact True.intro | refine ⟨rfl, ?_⟩)) ⟨Nat.zero_le _, hA1', Rw.nil _ _ _ _⟩ ?_
  rintro ⟨i, v⟩ H2 ⟨hi, hA2, hV⟩
  simp only at hi hV
  have hA2 : As (Zn v) H H2 b ⟨m, (List.range i).map (kC n), []⟩ := hA2
  dsimp only
  have htk : takenA ((List.range i).map (kC n)) = i := by
    unfold takenA
    rw [List.filter_eq_self.2]
    · simp
    · intro x hx
      obtain ⟨j, _, rfl⟩ := List.mem_map.1 hx
      rfl
  have hlive : liveA ⟨m, (List.range i).map (kC n), []⟩ = i := by simp [liveA]
  have hwi : Ar.Wf ⟨m, (List.range i).map (kC n), []⟩ := ⟨⟨by simp only; omega, by simp only; omega⟩, by rw [hlive]; simp only; omega, by simp, by simp, by simp [htk]⟩
  have hli : ((List.range i).map (kC n)).length = i := by simp
  repeat (first
    | refine x_move rfl rfl rfl trivial ?_
    | refine x_assign rfl rfl rfl trivial ?_
    | refine x_add rfl rfl rfl (wrap_i64 (by omega) (by omega)) rfl trivial ?_
    | refine x_sub_ rfl rfl rfl (wrap_i64 (by omega) (by omega)) rfl trivial ?_
    | refine x_sub_ rfl rfl rfl (wrap_u32 (by omega) (by omega)) rfl trivial ?_
    | refine x_add rfl rfl rfl (wrap_u32 (by omega) (by omega)) rfl trivial ?_
    | refine x_peqn rfl rfl rfl rfl trivial ?_
    | refine x_pnen rfl rfl rfl rfl trivial ?_
    | refine x_mul rfl rfl rfl (wrap_i64 (by omega) (by omega)) rfl trivial ?_
    | refine x_ibin rfl rfl rfl rfl rfl trivial ?_
    | refine x_neg_ rfl rfl (wrap_i64 (by omega) (by omega)) rfl trivial ?_
    | refine x_len rfl rfl (by assumption) rfl trivial ?_
    | refine x_pick_t rfl rfl rfl rfl trivial ?_
    | refine x_pick_f rfl rfl rfl rfl trivial ?_
    | refine x_not rfl rfl rfl trivial ?_
    | refine x_beq rfl rfl rfl rfl trivial ?_
    | refine x_bne rfl rfl rfl rfl trivial ?_
    | refine x_extract rfl rfl rfl rfl trivial ?_
    | refine x_nilCheck rfl rfl rfl trivial ?_
    | refine x_fieldAddr rfl rfl rfl rfl trivial ?_
    | refine x_skip trivial rfl rfl rfl ?_
    | refine x_indexAddr1 rfl rfl rfl (by assumption) (by omega) (by omega) rfl trivial ?_
    | refine x_indexAddr rfl rfl rfl (by assumption) (by omega) (by omega) rfl trivial ?_
    | refine x_nil ?_
    | refine cw_seq ?_
    | refine nw_seq ?_
    | refine nw_block ?_
    | refine cw_block ?_
    | refine cw_skip ?_
    | refine cw_region ?_
    | refine cw_exit rfl ?_
    | refine cw_true rfl ?_
    | refine cw_false rfl ?_)
  refine cw_cond rfl (fun hlt => ?_) (fun hlt => ?_) <;> (try simp at hlt)
  · have e : takeA ⟨m, (List.range i).map (kC n), []⟩ [n, w64 i, 0] = (((i + 1 : Nat) : Int), 0, ⟨m, (List.range i).map (kC n) ++ [([n, w64 i, 0], true)], []⟩) := by
      unfold takeA
      rw [if_neg (by simp), hlive, if_neg (by simp only; omega)]
      simp
    have hwt := takeA_wf hwi [n, w64 i, 0]
    rw [e] at hwt
    simp only at hwt
    have hget : ((List.range i).map (kC n) ++ [(([n, w64 i, 0] : List Int), true)])[i]? = some ([n, w64 i, 0], true) := by
      rw [List.getElem?_append_right (by omega), hli, Nat.sub_self]
      rfl
    have hhas : hasA ⟨m, (List.range i).map (kC n) ++ [([n, w64 i, 0], true)], []⟩ (i + 1) = true := hasA_iff.2 ⟨by omega, _, hget⟩
    have hwd : wordsA ⟨m, (List.range i).map (kC n) ++ [([n, w64 i, 0], true)], []⟩ (i + 1) = [n, w64 i, 0] := by unfold wordsA; rw [Nat.add_sub_cancel, hget]
    have herr : errA ⟨m, (List.range i).map (kC n) ++ [([n, w64 i, 0], true)], []⟩ (i + 1) 2 = 0 := by
      unfold errA
      rw [if_neg (by rw [hhas]; simp), hwd, if_neg (by simp)]
    have hset : setA ⟨m, (List.range i).map (kC n) ++ [([n, w64 i, 0], true)], []⟩ (i + 1) 2 (s64 n i) = ⟨m, (List.range (i + 1)).map (kC n), []⟩ := by
      unfold setA
      rw [if_pos herr, hwd]
      congr 1
      rw [List.range_succ, List.map_append, Nat.add_sub_cancel, List.set_append_right _ _ (by omega), hli, Nat.sub_self]
      rfl
    repeat (first
      | refine x_move rfl rfl rfl trivial ?_
      | refine x_assign rfl rfl rfl trivial ?_
      | refine x_add rfl rfl rfl (wrap_i64 (by omega) (by omega)) rfl trivial ?_
      | refine x_sub_ rfl rfl rfl (wrap_i64 (by omega) (by omega)) rfl trivial ?_
      | refine x_sub_ rfl rfl rfl (wrap_u32 (by omega) (by omega)) rfl trivial ?_
      | refine x_add rfl rfl rfl (wrap_u32 (by omega) (by omega)) rfl trivial ?_
      | refine x_peqn rfl rfl rfl rfl trivial ?_
      | refine x_pnen rfl rfl rfl rfl trivial ?_
      | refine x_mul rfl rfl rfl (wrap_i64 (by omega) (by omega)) rfl trivial ?_
      | refine x_ibin rfl rfl rfl rfl rfl trivial ?_
      | refine x_neg_ rfl rfl (wrap_i64 (by omega) (by omega)) rfl trivial ?_
      | refine x_len rfl rfl (by assumption) rfl trivial ?_
      | refine x_pick_t rfl rfl rfl rfl trivial ?_
      | refine x_pick_f rfl rfl rfl rfl trivial ?_
      | refine x_not rfl rfl rfl trivial ?_
      | refine x_beq rfl rfl rfl rfl trivial ?_
      | refine x_bne rfl rfl rfl rfl trivial ?_
      | refine x_extract rfl rfl rfl rfl trivial ?_
      | refine x_nilCheck rfl rfl rfl trivial ?_
      | refine x_fieldAddr rfl rfl rfl rfl trivial ?_
      | refine x_skip trivial rfl rfl rfl ?_
      | refine x_indexAddr1 rfl rfl rfl (by assumption) (by omega) (by omega) rfl trivial ?_
      | refine x_indexAddr rfl rfl rfl (by assumption) (by omega) (by omega) rfl trivial ?_
      | refine x_nil ?_
      | refine cw_seq ?_
      | refine nw_seq ?_
      | refine nw_block ?_
      | refine cw_block ?_
      | refine cw_skip ?_
      | refine cw_region ?_
      | refine cw_exit rfl ?_
      | refine cw_true rfl ?_
      | refine cw_false rfl ?_)
    refine x_conv_int rfl rfl rfl trivial ?_
    refine x_buildSlice (vs := u64s [n, w64 i, 0]) rfl rfl rfl rfl (by omega) (u64s_oneC _) rfl trivial ?_
    intro H3 hn3
    refine ⟨trivial, ?_⟩
    repeat (first
      | refine x_move rfl rfl rfl trivial ?_
      | refine x_assign rfl rfl rfl trivial ?_
      | refine x_add rfl rfl rfl (wrap_i64 (by omega) (by omega)) rfl trivial ?_
      | refine x_sub_ rfl rfl rfl (wrap_i64 (by omega) (by omega)) rfl trivial ?_
      | refine x_sub_ rfl rfl rfl (wrap_u32 (by omega) (by omega)) rfl trivial ?_
      | refine x_add rfl rfl rfl (wrap_u32 (by omega) (by omega)) rfl trivial ?_
      | refine x_peqn rfl rfl rfl rfl trivial ?_
      | refine x_pnen rfl rfl rfl rfl trivial ?_
      | refine x_mul rfl rfl rfl (wrap_i64 (by omega) (by omega)) rfl trivial ?_
      | refine x_ibin rfl rfl rfl rfl rfl trivial ?_
      | refine x_neg_ rfl rfl (wrap_i64 (by omega) (by omega)) rfl trivial ?_
      | refine x_len rfl rfl (by assumption) rfl trivial ?_
      | refine x_pick_t rfl rfl rfl rfl trivial ?_
      | refine x_pick_f rfl rfl rfl rfl trivial ?_
      | refine x_not rfl rfl rfl trivial ?_
      | refine x_beq rfl rfl rfl rfl trivial ?_
      | refine x_bne rfl rfl rfl rfl trivial ?_
      | refine x_extract rfl rfl rfl rfl trivial ?_
      | refine x_nilCheck rfl rfl rfl trivial ?_
      | refine x_fieldAddr rfl rfl rfl rfl trivial ?_
      | refine x_skip trivial rfl rfl rfl ?_
      | refine x_indexAddr1 rfl rfl rfl (by assumption) (by omega) (by omega) rfl trivial ?_
      | refine x_indexAddr rfl rfl rfl (by assumption) (by omega) (by omega) rfl trivial ?_
      | refine x_nil ?_
      | refine cw_seq ?_
      | refine nw_seq ?_
      | refine nw_block ?_
      | refine cw_block ?_
      | refine cw_skip ?_
      | refine cw_region ?_
      | refine cw_exit rfl ?_
      | refine cw_true rfl ?_
      | refine cw_false rfl ?_)
    refine x_call rfl rfl rfl trivial (as_Take (ws := [n, w64 i, 0]) (hA2.stepN hn3.keep) hwi ⟨isSl_some (Nat.le_refl _) (by omega), hn3.blk.cels 0 3 (by simp [u64s])⟩ (by simp) (by simp; omega) (by simp)) ?_
    rintro _ H4 ⟨rfl, hA4, hk4⟩
    refine ⟨trivial, ?_⟩
    rw [e] at hA4 ⊢
    simp only at hA4
    have hV4 := own_keep (hV.keepN hn3.keep) hk4
    repeat (first
      | refine x_move rfl rfl rfl trivial ?_
      | refine x_assign rfl rfl rfl trivial ?_
      | refine x_add rfl rfl rfl (wrap_i64 (by omega) (by omega)) rfl trivial ?_
      | refine x_sub_ rfl rfl rfl (wrap_i64 (by omega) (by omega)) rfl trivial ?_
      | refine x_sub_ rfl rfl rfl (wrap_u32 (by omega) (by omega)) rfl trivial ?_
      | refine x_add rfl rfl rfl (wrap_u32 (by omega) (by omega)) rfl trivial ?_
      | refine x_peqn rfl rfl rfl rfl trivial ?_
      | refine x_pnen rfl rfl rfl rfl trivial ?_
      | refine x_mul rfl rfl rfl (wrap_i64 (by omega) (by omega)) rfl trivial ?_
      | refine x_ibin rfl rfl rfl rfl rfl trivial ?_
      | refine x_neg_ rfl rfl (wrap_i64 (by omega) (by omega)) rfl trivial ?_
      | refine x_len rfl rfl (by assumption) rfl trivial ?_
      | refine x_pick_t rfl rfl rfl rfl trivial ?_
      | refine x_pick_f rfl rfl rfl rfl trivial ?_
      | refine x_not rfl rfl rfl trivial ?_
      | refine x_beq rfl rfl rfl rfl trivial ?_
      | refine x_bne rfl rfl rfl rfl trivial ?_
      | refine x_extract rfl rfl rfl rfl trivial ?_
      | refine x_nilCheck rfl rfl rfl trivial ?_
      | refine x_fieldAddr rfl rfl rfl rfl trivial ?_
      | refine x_skip trivial rfl rfl rfl ?_
      | refine x_indexAddr1 rfl rfl rfl (by assumption) (by omega) (by omega) rfl trivial ?_
      | refine x_indexAddr rfl rfl rfl (by assumption) (by omega) (by omega) rfl trivial ?_
      | refine x_nil ?_
      | refine cw_seq ?_
      | refine nw_seq ?_
      | refine nw_block ?_
      | refine cw_block ?_
      | refine cw_skip ?_
      | refine cw_region ?_
      | refine cw_exit rfl ?_
      | refine cw_true rfl ?_
      | refine cw_false rfl ?_)
    refine x_conv_int rfl rfl rfl trivial ?_
    repeat (first
      | refine x_move rfl rfl rfl trivial ?_
      | refine x_assign rfl rfl rfl trivial ?_
      | refine x_add rfl rfl rfl (wrap_i64 (by omega) (by omega)) rfl trivial ?_
      | refine x_sub_ rfl rfl rfl (wrap_i64 (by omega) (by omega)) rfl trivial ?_
      | refine x_sub_ rfl rfl rfl (wrap_u32 (by omega) (by omega)) rfl trivial ?_
      | refine x_add rfl rfl rfl (wrap_u32 (by omega) (by omega)) rfl trivial ?_
      | refine x_peqn rfl rfl rfl rfl trivial ?_
      | refine x_pnen rfl rfl rfl rfl trivial ?_
      | refine x_mul rfl rfl rfl (wrap_i64 (by omega) (by omega)) rfl trivial ?_
      | refine x_ibin rfl rfl rfl rfl rfl trivial ?_
      | refine x_neg_ rfl rfl (wrap_i64 (by omega) (by omega)) rfl trivial ?_
      | refine x_len rfl rfl (by assumption) rfl trivial ?_
      | refine x_pick_t rfl rfl rfl rfl trivial ?_
      | refine x_pick_f rfl rfl rfl rfl trivial ?_
      | refine x_not rfl rfl rfl trivial ?_
      | refine x_beq rfl rfl rfl rfl trivial ?_
      | refine x_bne rfl rfl rfl rfl trivial ?_
      | refine x_extract rfl rfl rfl rfl trivial ?_
      | refine x_nilCheck rfl rfl rfl trivial ?_
      | refine x_fieldAddr rfl rfl rfl rfl trivial ?_
      | refine x_skip trivial rfl rfl rfl ?_
      | refine x_indexAddr1 rfl rfl rfl (by assumption) (by omega) (by omega) rfl trivial ?_
      | refine x_indexAddr rfl rfl rfl (by assumption) (by omega) (by omega) rfl trivial ?_
      | refine x_nil ?_
      | refine cw_seq ?_
      | refine nw_seq ?_
      | refine nw_block ?_
      | refine cw_block ?_
      | refine cw_skip ?_
      | refine cw_region ?_
      | refine cw_exit rfl ?_
      | refine cw_true rfl ?_
      | refine cw_false rfl ?_)
    refine x_call rfl rfl rfl trivial (as_Set (h := i + 1) (i := 2) (x := s64 n i) hA4 (by omega) (by simp; omega)) ?_
    rintro _ H5 ⟨rfl, hA5, hk5⟩
    refine ⟨trivial, ?_⟩
    rw [hset] at hA5
    rw [herr]
    have hV5 := own_keep hV4 hk5
    repeat (first
      | refine x_move rfl rfl rfl trivial ?_
      | refine x_assign rfl rfl rfl trivial ?_
      | refine x_add rfl rfl rfl (wrap_i64 (by omega) (by omega)) rfl trivial ?_
      | refine x_sub_ rfl rfl rfl (wrap_i64 (by omega) (by omega)) rfl trivial ?_
      | refine x_sub_ rfl rfl rfl (wrap_u32 (by omega) (by omega)) rfl trivial ?_
      | refine x_add rfl rfl rfl (wrap_u32 (by omega) (by omega)) rfl trivial ?_
      | refine x_peqn rfl rfl rfl rfl trivial ?_
      | refine x_pnen rfl rfl rfl rfl trivial ?_
      | refine x_mul rfl rfl rfl (wrap_i64 (by omega) (by omega)) rfl trivial ?_
      | refine x_ibin rfl rfl rfl rfl rfl trivial ?_
      | refine x_neg_ rfl rfl (wrap_i64 (by omega) (by omega)) rfl trivial ?_
      | refine x_len rfl rfl (by assumption) rfl trivial ?_
      | refine x_pick_t rfl rfl rfl rfl trivial ?_
      | refine x_pick_f rfl rfl rfl rfl trivial ?_
      | refine x_not rfl rfl rfl trivial ?_
      | refine x_beq rfl rfl rfl rfl trivial ?_
      | refine x_bne rfl rfl rfl rfl trivial ?_
      | refine x_extract rfl rfl rfl rfl trivial ?_
      | refine x_nilCheck rfl rfl rfl trivial ?_
      | refine x_fieldAddr rfl rfl rfl rfl trivial ?_
      | refine x_skip trivial rfl rfl rfl ?_
      | refine x_indexAddr1 rfl rfl rfl (by assumption) (by omega) (by omega) rfl trivial ?_
      | refine x_indexAddr rfl rfl rfl (by assumption) (by omega) (by omega) rfl trivial ?_
      | refine x_nil ?_
      | refine cw_seq ?_
      | refine nw_seq ?_
      | refine nw_block ?_
      | refine cw_block ?_
      | refine cw_skip ?_
      | refine cw_region ?_
      | refine cw_exit rfl ?_
      | refine cw_true rfl ?_
      | refine cw_false rfl ?_)
    refine x_buildSlice (vs := [.int .u32 ((i + 1 : Nat) : Int)]) rfl rfl rfl rfl (by omega) (oc_cons rfl oc_nil) rfl trivial ?_
    intro H6 hn6
    refine ⟨trivial, ?_⟩
    obtain ⟨q, hq1, hq2⟩ := (hV5.keepN hn6.keep).row
    refine x_append (v := v) (by rfl) (by rfl) (by rfl) rfl rfl rfl hq2 (isSl_some (Nat.le_refl _) (by omega)) (m := 1) (cx := rws encU [i + 1]) rfl (hn6.blk.cels 0 1 (by simp)) (rws_oneC (fun x hx => by simp at hx; subst hx; exact oc_cons rfl oc_nil)) (by rw [List.length_range']; omega) rfl trivial ?_
    intro v7 H7 hap
    refine ⟨trivial, ?_⟩
    obtain ⟨hA7, hV7⟩ := app_own hA5 hn6.keep hq1 hap
    repeat (first
      | refine x_move rfl rfl rfl trivial ?_
      | refine x_assign rfl rfl rfl trivial ?_
      | refine x_add rfl rfl rfl (wrap_i64 (by omega) (by omega)) rfl trivial ?_
      | refine x_sub_ rfl rfl rfl (wrap_i64 (by omega) (by omega)) rfl trivial ?_
      | refine x_sub_ rfl rfl rfl (wrap_u32 (by omega) (by omega)) rfl trivial ?_
      | refine x_add rfl rfl rfl (wrap_u32 (by omega) (by omega)) rfl trivial ?_
      | refine x_peqn rfl rfl rfl rfl trivial ?_
      | refine x_pnen rfl rfl rfl rfl trivial ?_
      | refine x_mul rfl rfl rfl (wrap_i64 (by omega) (by omega)) rfl trivial ?_
      | refine x_ibin rfl rfl rfl rfl rfl trivial ?_
      | refine x_neg_ rfl rfl (wrap_i64 (by omega) (by omega)) rfl trivial ?_
      | refine x_len rfl rfl (by assumption) rfl trivial ?_
      | refine x_pick_t rfl rfl rfl rfl trivial ?_
      | refine x_pick_f rfl rfl rfl rfl trivial ?_
      | refine x_not rfl rfl rfl trivial ?_
      | refine x_beq rfl rfl rfl rfl trivial ?_
      | refine x_bne rfl rfl rfl rfl trivial ?_
      | refine x_extract rfl rfl rfl rfl trivial ?_
      | refine x_nilCheck rfl rfl rfl trivial ?_
      | refine x_fieldAddr rfl rfl rfl rfl trivial ?_
      | refine x_skip trivial rfl rfl rfl ?_
      | refine x_indexAddr1 rfl rfl rfl (by assumption) (by omega) (by omega) rfl trivial ?_
      | refine x_indexAddr rfl rfl rfl (by assumption) (by omega) (by omega) rfl trivial ?_
      | refine x_nil ?_
      | refine cw_seq ?_
      | refine nw_seq ?_
      | refine nw_block ?_
      | refine cw_block ?_
      | refine cw_skip ?_
      | refine cw_region ?_
      | refine cw_exit rfl ?_
      | refine cw_true rfl ?_
      | refine cw_false rfl ?_)
    refine nw_round (i + 1, v7) (by repeat (first | exact True.intro | refine ⟨rfl, ?_⟩)) ⟨by show i + 1 ≤ _; omega, hA7, ?_⟩ (by show m - (i + 1) < m - i; omega)
    show Rw encU 1 Eq H7 v7 (List.range' 1 (i + 1))
    rw [List.range'_concat, Nat.one_mul, Nat.add_comm 1 i]
    exact hV7
  · have him : i = m := by omega
    subst him
    have hK0 : KA n give i 0 ⟨i, (List.range i).map (kC n), []⟩ := ⟨hwi, rfl, hli, Nat.le_refl _, fun j hj => by
      show ((List.range i).map (kC n))[j]? = _
      rw [if_neg (by omega), List.getElem?_map, List.getElem?_range hj]
      rfl⟩
    repeat (first
      | refine x_move rfl rfl rfl trivial ?_
      | refine x_assign rfl rfl rfl trivial ?_
      | refine x_add rfl rfl rfl (wrap_i64 (by omega) (by omega)) rfl trivial ?_
      | refine x_sub_ rfl rfl rfl (wrap_i64 (by omega) (by omega)) rfl trivial ?_
      | refine x_sub_ rfl rfl rfl (wrap_u32 (by omega) (by omega)) rfl trivial ?_
      | refine x_add rfl rfl rfl (wrap_u32 (by omega) (by omega)) rfl trivial ?_
      | refine x_peqn rfl rfl rfl rfl trivial ?_
      | refine x_pnen rfl rfl rfl rfl trivial ?_
      | refine x_mul rfl rfl rfl (wrap_i64 (by omega) (by omega)) rfl trivial ?_
      | refine x_ibin rfl rfl rfl rfl rfl trivial ?_
      | refine x_neg_ rfl rfl (wrap_i64 (by omega) (by omega)) rfl trivial ?_
      | refine x_len rfl rfl (by assumption) rfl trivial ?_
      | refine x_pick_t rfl rfl rfl rfl trivial ?_
      | refine x_pick_f rfl rfl rfl rfl trivial ?_
      | refine x_not rfl rfl rfl trivial ?_
      | refine x_beq rfl rfl rfl rfl trivial ?_
      | refine x_bne rfl rfl rfl rfl trivial ?_
      | refine x_extract rfl rfl rfl rfl trivial ?_
      | refine x_nilCheck rfl rfl rfl trivial ?_
      | refine x_fieldAddr rfl rfl rfl rfl trivial ?_
      | refine x_skip trivial rfl rfl rfl ?_
      | refine x_indexAddr1 rfl rfl rfl (by assumption) (by omega) (by omega) rfl trivial ?_
      | refine x_indexAddr rfl rfl rfl (by assumption) (by omega) (by omega) rfl trivial ?_
      | refine x_nil ?_
      | refine cw_seq ?_
      | refine nw_seq ?_
      | refine nw_block ?_
      | refine cw_block ?_
      | refine cw_skip ?_
      | refine cw_region ?_
      | refine cw_exit rfl ?_
      | refine cw_true rfl ?_
      | refine cw_false rfl ?_)
    refine cw_loop (fun s : Nat × Ar => [(0, .int .i64 i), (1, .int .i64 give), (2, .int .u64 n), (7, ptr b 0), (8, v), (12, .int .i64 (liveA s.2)), (13, .int .i64 s.1)])
      (fun s H' => s.1 ≤ i ∧ As (Zn v) H H' b s.2 ∧ KA n give i s.1 s.2 ∧ Rw encU 1 Eq H' v (List.range' 1 i)) (fun s => i - s.1) (0, _) (by rw [hlive]; exact (by repeat (first | exact True.intro | refine ⟨rfl, ?_⟩))) ⟨Nat.zero_le _, hA2, hK0, hV⟩ ?_
    rintro ⟨k, a⟩ H3 ⟨hk, hA3, hK, hV3⟩
    simp only at hk
    have hA3 : As (Zn v) H H3 b a := hA3
    have hK : KA n give i k a := hK
    dsimp only
    have hwa := hK.wf
    have hlv := hwa.live.1
    have hle := hwa.le
    have hal := hK.len
    have hab := hK.back
    have ham := hK.most
    have sV := hV3.sl
    rw [List.length_range'] at sV
    repeat (first
      | refine x_move rfl rfl rfl trivial ?_
      | refine x_assign rfl rfl rfl trivial ?_
      | refine x_add rfl rfl rfl (wrap_i64 (by omega) (by omega)) rfl trivial ?_
      | refine x_sub_ rfl rfl rfl (wrap_i64 (by omega) (by omega)) rfl trivial ?_
      | refine x_sub_ rfl rfl rfl (wrap_u32 (by omega) (by omega)) rfl trivial ?_
      | refine x_add rfl rfl rfl (wrap_u32 (by omega) (by omega)) rfl trivial ?_
      | refine x_peqn rfl rfl rfl rfl trivial ?_
      | refine x_pnen rfl rfl rfl rfl trivial ?_
      | refine x_mul rfl rfl rfl (wrap_i64 (by omega) (by omega)) rfl trivial ?_
      | refine x_ibin rfl rfl rfl rfl rfl trivial ?_
      | refine x_neg_ rfl rfl (wrap_i64 (by omega) (by omega)) rfl trivial ?_
      | refine x_len rfl rfl (by assumption) rfl trivial ?_
      | refine x_pick_t rfl rfl rfl rfl trivial ?_
      | refine x_pick_f rfl rfl rfl rfl trivial ?_
      | refine x_not rfl rfl rfl trivial ?_
      | refine x_beq rfl rfl rfl rfl trivial ?_
      | refine x_bne rfl rfl rfl rfl trivial ?_
      | refine x_extract rfl rfl rfl rfl trivial ?_
      | refine x_nilCheck rfl rfl rfl trivial ?_
      | refine x_fieldAddr rfl rfl rfl rfl trivial ?_
      | refine x_skip trivial rfl rfl rfl ?_
      | refine x_indexAddr1 rfl rfl rfl (by assumption) (by omega) (by omega) rfl trivial ?_
      | refine x_indexAddr rfl rfl rfl (by assumption) (by omega) (by omega) rfl trivial ?_
      | refine x_nil ?_
      | refine cw_seq ?_
      | refine nw_seq ?_
      | refine nw_block ?_
      | refine cw_block ?_
      | refine cw_skip ?_
      | refine cw_region ?_
      | refine cw_exit rfl ?_
      | refine cw_true rfl ?_
      | refine cw_false rfl ?_)
    refine cw_cond rfl (fun hlt2 => ?_) (fun hlt2 => ?_) <;> (try simp at hlt2)
    · have hgk : (List.range' 1 i)[k]? = some (k + 1) := by rw [List.getElem?_range' hlt2]; simp; omega
      obtain ⟨y, hy, hcv⟩ := hV3.rd.cel1 encU_len hgk
      rw [hy] at hcv
      have h01 := bt_01 give k
      have hak := hK.at_ k hlt2
      rw [if_neg (by omega)] at hak
      repeat (first
        | refine x_move rfl rfl rfl trivial ?_
        | refine x_assign rfl rfl rfl trivial ?_
        | refine x_add rfl rfl rfl (wrap_i64 (by omega) (by omega)) rfl trivial ?_
        | refine x_sub_ rfl rfl rfl (wrap_i64 (by omega) (by omega)) rfl trivial ?_
        | refine x_sub_ rfl rfl rfl (wrap_u32 (by omega) (by omega)) rfl trivial ?_
        | refine x_add rfl rfl rfl (wrap_u32 (by omega) (by omega)) rfl trivial ?_
        | refine x_peqn rfl rfl rfl rfl trivial ?_
        | refine x_pnen rfl rfl rfl rfl trivial ?_
        | refine x_mul rfl rfl rfl (wrap_i64 (by omega) (by omega)) rfl trivial ?_
        | refine x_ibin rfl rfl rfl rfl rfl trivial ?_
        | refine x_neg_ rfl rfl (wrap_i64 (by omega) (by omega)) rfl trivial ?_
        | refine x_len rfl rfl (by assumption) rfl trivial ?_
        | refine x_pick_t rfl rfl rfl rfl trivial ?_
        | refine x_pick_f rfl rfl rfl rfl trivial ?_
        | refine x_not rfl rfl rfl trivial ?_
        | refine x_beq rfl rfl rfl rfl trivial ?_
        | refine x_bne rfl rfl rfl rfl trivial ?_
        | refine x_extract rfl rfl rfl rfl trivial ?_
        | refine x_nilCheck rfl rfl rfl trivial ?_
        | refine x_fieldAddr rfl rfl rfl rfl trivial ?_
        | refine x_skip trivial rfl rfl rfl ?_
        | refine x_indexAddr1 rfl rfl rfl (by assumption) (by omega) (by omega) rfl trivial ?_
        | refine x_indexAddr rfl rfl rfl (by assumption) (by omega) (by omega) rfl trivial ?_
        | refine x_nil ?_
        | refine cw_seq ?_
        | refine nw_seq ?_
        | refine nw_block ?_
        | refine cw_block ?_
        | refine cw_skip ?_
        | refine cw_region ?_
        | refine cw_exit rfl ?_
        | refine cw_true rfl ?_
        | refine cw_false rfl ?_)
      refine x_shr rfl rfl rfl (by omega) rfl trivial ?_
      repeat (first
        | refine x_move rfl rfl rfl trivial ?_
        | refine x_assign rfl rfl rfl trivial ?_
        | refine x_add rfl rfl rfl (wrap_i64 (by omega) (by omega)) rfl trivial ?_
        | refine x_sub_ rfl rfl rfl (wrap_i64 (by omega) (by omega)) rfl trivial ?_
        | refine x_sub_ rfl rfl rfl (wrap_u32 (by omega) (by omega)) rfl trivial ?_
        | refine x_add rfl rfl rfl (wrap_u32 (by omega) (by omega)) rfl trivial ?_
        | refine x_peqn rfl rfl rfl rfl trivial ?_
        | refine x_pnen rfl rfl rfl rfl trivial ?_
        | refine x_mul rfl rfl rfl (wrap_i64 (by omega) (by omega)) rfl trivial ?_
        | refine x_ibin rfl rfl rfl rfl rfl trivial ?_
        | refine x_neg_ rfl rfl (wrap_i64 (by omega) (by omega)) rfl trivial ?_
        | refine x_len rfl rfl (by assumption) rfl trivial ?_
        | refine x_pick_t rfl rfl rfl rfl trivial ?_
        | refine x_pick_f rfl rfl rfl rfl trivial ?_
        | refine x_not rfl rfl rfl trivial ?_
        | refine x_beq rfl rfl rfl rfl trivial ?_
        | refine x_bne rfl rfl rfl rfl trivial ?_
        | refine x_extract rfl rfl rfl rfl trivial ?_
        | refine x_nilCheck rfl rfl rfl trivial ?_
        | refine x_fieldAddr rfl rfl rfl rfl trivial ?_
        | refine x_skip trivial rfl rfl rfl ?_
        | refine x_indexAddr1 rfl rfl rfl (by assumption) (by omega) (by omega) rfl trivial ?_
        | refine x_indexAddr rfl rfl rfl (by assumption) (by omega) (by omega) rfl trivial ?_
        | refine x_nil ?_
        | refine cw_seq ?_
        | refine nw_seq ?_
        | refine nw_block ?_
        | refine cw_block ?_
        | refine cw_skip ?_
        | refine cw_region ?_
        | refine cw_exit rfl ?_
        | refine cw_true rfl ?_
        | refine cw_false rfl ?_)
      refine cw_cond (b := (bt give k == 1)) rfl (fun hb => ?_) (fun hb => ?_) <;> simp at hb
      · have hh : hasA a (k + 1) = true := hasA_iff.2 ⟨by omega, _, hak⟩
        have e : giveA a (k + 1) = (0, ⟨a.most, a.cs.set k ([], false), a.back ++ [k + 1]⟩) := by unfold giveA; rw [if_neg (by rw [hh]; simp)]; rfl
        have hwg := giveA_wf hwa (k + 1)
        rw [e] at hwg
        simp only at hwg
        have e2 : giveA ⟨a.most, a.cs.set k ([], false), a.back ++ [k + 1]⟩ (k + 1) = (5, ⟨a.most, a.cs.set k ([], false), a.back ++ [k + 1]⟩) := by
          unfold giveA
          rw [if_pos]
          unfold hasA
          rw [Nat.add_sub_cancel]
          show (match (a.cs.set k ([], false))[k]? with | some x => decide (1 ≤ k + 1) && x.2 | none => false) = false
          rw [List.getElem?_set_self (by omega)]
          simp
        repeat (first
          | refine x_move rfl rfl rfl trivial ?_
          | refine x_assign rfl rfl rfl trivial ?_
          | refine x_add rfl rfl rfl (wrap_i64 (by omega) (by omega)) rfl trivial ?_
          | refine x_sub_ rfl rfl rfl (wrap_i64 (by omega) (by omega)) rfl trivial ?_
          | refine x_sub_ rfl rfl rfl (wrap_u32 (by omega) (by omega)) rfl trivial ?_
          | refine x_add rfl rfl rfl (wrap_u32 (by omega) (by omega)) rfl trivial ?_
          | refine x_peqn rfl rfl rfl rfl trivial ?_
          | refine x_pnen rfl rfl rfl rfl trivial ?_
          | refine x_mul rfl rfl rfl (wrap_i64 (by omega) (by omega)) rfl trivial ?_
          | refine x_ibin rfl rfl rfl rfl rfl trivial ?_
          | refine x_neg_ rfl rfl (wrap_i64 (by omega) (by omega)) rfl trivial ?_
          | refine x_len rfl rfl (by assumption) rfl trivial ?_
          | refine x_pick_t rfl rfl rfl rfl trivial ?_
          | refine x_pick_f rfl rfl rfl rfl trivial ?_
          | refine x_not rfl rfl rfl trivial ?_
          | refine x_beq rfl rfl rfl rfl trivial ?_
          | refine x_bne rfl rfl rfl rfl trivial ?_
          | refine x_extract rfl rfl rfl rfl trivial ?_
          | refine x_nilCheck rfl rfl rfl trivial ?_
          | refine x_fieldAddr rfl rfl rfl rfl trivial ?_
          | refine x_skip trivial rfl rfl rfl ?_
          | refine x_indexAddr1 rfl rfl rfl (by assumption) (by omega) (by omega) rfl trivial ?_
          | refine x_indexAddr rfl rfl rfl (by assumption) (by omega) (by omega) rfl trivial ?_
          | refine x_nil ?_
          | refine cw_seq ?_
          | refine nw_seq ?_
          | refine nw_block ?_
          | refine cw_block ?_
          | refine cw_skip ?_
          | refine cw_region ?_
          | refine cw_exit rfl ?_
          | refine cw_true rfl ?_
          | refine cw_false rfl ?_)
        refine x_load rfl rfl (hpmt (hcv)) rfl trivial ?_
        refine x_call rfl rfl rfl trivial (as_Give (h := k + 1) hA3 (by omega) (by omega) (by omega)) ?_
        rintro _ H4 ⟨rfl, hA4, hk4⟩
        refine ⟨trivial, ?_⟩
        rw [e] at hA4 ⊢
        simp only at hA4
        have hV4 := own_keep hV3 hk4
        obtain ⟨y4, hy4, hcv4⟩ := hV4.rd.cel1 encU_len hgk
        rw [hy4] at hcv4
        repeat (first
          | refine x_move rfl rfl rfl trivial ?_
          | refine x_assign rfl rfl rfl trivial ?_
          | refine x_add rfl rfl rfl (wrap_i64 (by omega) (by omega)) rfl trivial ?_
          | refine x_sub_ rfl rfl rfl (wrap_i64 (by omega) (by omega)) rfl trivial ?_
          | refine x_sub_ rfl rfl rfl (wrap_u32 (by omega) (by omega)) rfl trivial ?_
          | refine x_add rfl rfl rfl (wrap_u32 (by omega) (by omega)) rfl trivial ?_
          | refine x_peqn rfl rfl rfl rfl trivial ?_
          | refine x_pnen rfl rfl rfl rfl trivial ?_
          | refine x_mul rfl rfl rfl (wrap_i64 (by omega) (by omega)) rfl trivial ?_
          | refine x_ibin rfl rfl rfl rfl rfl trivial ?_
          | refine x_neg_ rfl rfl (wrap_i64 (by omega) (by omega)) rfl trivial ?_
          | refine x_len rfl rfl (by assumption) rfl trivial ?_
          | refine x_pick_t rfl rfl rfl rfl trivial ?_
          | refine x_pick_f rfl rfl rfl rfl trivial ?_
          | refine x_not rfl rfl rfl trivial ?_
          | refine x_beq rfl rfl rfl rfl trivial ?_
          | refine x_bne rfl rfl rfl rfl trivial ?_
          | refine x_extract rfl rfl rfl rfl trivial ?_
          | refine x_nilCheck rfl rfl rfl trivial ?_
          | refine x_fieldAddr rfl rfl rfl rfl trivial ?_
          | refine x_skip trivial rfl rfl rfl ?_
          | refine x_indexAddr1 rfl rfl rfl (by assumption) (by omega) (by omega) rfl trivial ?_
          | refine x_indexAddr rfl rfl rfl (by assumption) (by omega) (by omega) rfl trivial ?_
          | refine x_nil ?_
          | refine cw_seq ?_
          | refine nw_seq ?_
          | refine nw_block ?_
          | refine cw_block ?_
          | refine cw_skip ?_
          | refine cw_region ?_
          | refine cw_exit rfl ?_
          | refine cw_true rfl ?_
          | refine cw_false rfl ?_)
        refine x_load rfl rfl (hpmt (hcv4)) rfl trivial ?_
        refine x_call rfl rfl rfl trivial (as_Give (h := k + 1) hA4 (by omega) (by simp; omega) (by simp; omega)) ?_
        rintro _ H5 ⟨rfl, hA5, hk5⟩
        refine ⟨trivial, ?_⟩
        rw [e2] at hA5 ⊢
        simp only at hA5
        have hV5 := own_keep hV4 hk5
        have hl5 : liveA ⟨a.most, a.cs.set k ([], false), a.back ++ [k + 1]⟩ = liveA a - 1 := by simp [liveA]; omega
        repeat (first
          | refine x_move rfl rfl rfl trivial ?_
          | refine x_assign rfl rfl rfl trivial ?_
          | refine x_add rfl rfl rfl (wrap_i64 (by omega) (by omega)) rfl trivial ?_
          | refine x_sub_ rfl rfl rfl (wrap_i64 (by omega) (by omega)) rfl trivial ?_
          | refine x_sub_ rfl rfl rfl (wrap_u32 (by omega) (by omega)) rfl trivial ?_
          | refine x_add rfl rfl rfl (wrap_u32 (by omega) (by omega)) rfl trivial ?_
          | refine x_peqn rfl rfl rfl rfl trivial ?_
          | refine x_pnen rfl rfl rfl rfl trivial ?_
          | refine x_mul rfl rfl rfl (wrap_i64 (by omega) (by omega)) rfl trivial ?_
          | refine x_ibin rfl rfl rfl rfl rfl trivial ?_
          | refine x_neg_ rfl rfl (wrap_i64 (by omega) (by omega)) rfl trivial ?_
          | refine x_len rfl rfl (by assumption) rfl trivial ?_
          | refine x_pick_t rfl rfl rfl rfl trivial ?_
          | refine x_pick_f rfl rfl rfl rfl trivial ?_
          | refine x_not rfl rfl rfl trivial ?_
          | refine x_beq rfl rfl rfl rfl trivial ?_
          | refine x_bne rfl rfl rfl rfl trivial ?_
          | refine x_extract rfl rfl rfl rfl trivial ?_
          | refine x_nilCheck rfl rfl rfl trivial ?_
          | refine x_fieldAddr rfl rfl rfl rfl trivial ?_
          | refine x_skip trivial rfl rfl rfl ?_
          | refine x_indexAddr1 rfl rfl rfl (by assumption) (by omega) (by omega) rfl trivial ?_
          | refine x_indexAddr rfl rfl rfl (by assumption) (by omega) (by omega) rfl trivial ?_
          | refine x_nil ?_
          | refine cw_seq ?_
          | refine nw_seq ?_
          | refine nw_block ?_
          | refine cw_block ?_
          | refine cw_skip ?_
          | refine cw_region ?_
          | refine cw_exit rfl ?_
          | refine cw_true rfl ?_
          | refine cw_false rfl ?_)
        rw [← hl5]
        refine nw_round (k + 1, ⟨a.most, a.cs.set k ([], false), a.back ++ [k + 1]⟩) (by repeat (first | exact True.intro | refine ⟨rfl, ?_⟩)) ⟨by show k + 1 ≤ _; omega, hA5, ⟨hwg, ham, by simpa using hal, by simp; omega, fun j hj => ?_⟩, hV5⟩ (by show i - (k + 1) < i - k; omega)
        show (a.cs.set k _)[j]? = _
        by_cases hjk : j = k
        · subst hjk
          rw [List.getElem?_set_self (by omega), if_pos ⟨by omega, hb⟩]
        · rw [List.getElem?_set_ne (fun e => hjk e.symm), hK.at_ j hj]
          by_cases h3 : j < k ∧ bt give j = 1
          · rw [if_pos h3, if_pos ⟨by omega, h3.2⟩]
          · rw [if_neg h3, if_neg (fun h => h3 ⟨by omega, h.2⟩)]
      · repeat (first
          | refine x_move rfl rfl rfl trivial ?_
          | refine x_assign rfl rfl rfl trivial ?_
          | refine x_add rfl rfl rfl (wrap_i64 (by omega) (by omega)) rfl trivial ?_
          | refine x_sub_ rfl rfl rfl (wrap_i64 (by omega) (by omega)) rfl trivial ?_
          | refine x_sub_ rfl rfl rfl (wrap_u32 (by omega) (by omega)) rfl trivial ?_
          | refine x_add rfl rfl rfl (wrap_u32 (by omega) (by omega)) rfl trivial ?_
          | refine x_peqn rfl rfl rfl rfl trivial ?_
          | refine x_pnen rfl rfl rfl rfl trivial ?_
          | refine x_mul rfl rfl rfl (wrap_i64 (by omega) (by omega)) rfl trivial ?_
          | refine x_ibin rfl rfl rfl rfl rfl trivial ?_
          | refine x_neg_ rfl rfl (wrap_i64 (by omega) (by omega)) rfl trivial ?_
          | refine x_len rfl rfl (by assumption) rfl trivial ?_
          | refine x_pick_t rfl rfl rfl rfl trivial ?_
          | refine x_pick_f rfl rfl rfl rfl trivial ?_
          | refine x_not rfl rfl rfl trivial ?_
          | refine x_beq rfl rfl rfl rfl trivial ?_
          | refine x_bne rfl rfl rfl rfl trivial ?_
          | refine x_extract rfl rfl rfl rfl trivial ?_
          | refine x_nilCheck rfl rfl rfl trivial ?_
          | refine x_fieldAddr rfl rfl rfl rfl trivial ?_
          | refine x_skip trivial rfl rfl rfl ?_
          | refine x_indexAddr1 rfl rfl rfl (by assumption) (by omega) (by omega) rfl trivial ?_
          | refine x_indexAddr rfl rfl rfl (by assumption) (by omega) (by omega) rfl trivial ?_
          | refine x_nil ?_
          | refine cw_seq ?_
          | refine nw_seq ?_
          | refine nw_block ?_
          | refine cw_block ?_
          | refine cw_skip ?_
          | refine cw_region ?_
          | refine cw_exit rfl ?_
          | refine cw_true rfl ?_
          | refine cw_false rfl ?_)
        refine nw_round (k + 1, a) (by repeat (first | exact True.intro | refine ⟨rfl, ?_⟩)) ⟨by show k + 1 ≤ _; omega, hA3, ⟨hwa, ham, hal, by show a.back.length ≤ k + 1; omega, fun j hj => ?_⟩, hV3⟩ (by show i - (k + 1) < i - k; omega)
        rw [hK.at_ j hj]
        by_cases h3 : j < k ∧ bt give j = 1
        · rw [if_pos h3, if_pos ⟨by omega, h3.2⟩]
        · rw [if_neg h3, if_neg (fun h => by
            by_cases hjk : j = k
            · subst hjk; exact hb h.2
            · exact h3 ⟨by omega, h.2⟩)]
    · have hke : k = i := by omega
      subst hke
      repeat (first
        | refine x_move rfl rfl rfl trivial ?_
        | refine x_assign rfl rfl rfl trivial ?_
        | refine x_add rfl rfl rfl (wrap_i64 (by omega) (by omega)) rfl trivial ?_
        | refine x_sub_ rfl rfl rfl (wrap_i64 (by omega) (by omega)) rfl trivial ?_
        | refine x_sub_ rfl rfl rfl (wrap_u32 (by omega) (by omega)) rfl trivial ?_
        | refine x_add rfl rfl rfl (wrap_u32 (by omega) (by omega)) rfl trivial ?_
        | refine x_peqn rfl rfl rfl rfl trivial ?_
        | refine x_pnen rfl rfl rfl rfl trivial ?_
        | refine x_mul rfl rfl rfl (wrap_i64 (by omega) (by omega)) rfl trivial ?_
        | refine x_ibin rfl rfl rfl rfl rfl trivial ?_
        | refine x_neg_ rfl rfl (wrap_i64 (by omega) (by omega)) rfl trivial ?_
        | refine x_len rfl rfl (by assumption) rfl trivial ?_
        | refine x_pick_t rfl rfl rfl rfl trivial ?_
        | refine x_pick_f rfl rfl rfl rfl trivial ?_
        | refine x_not rfl rfl rfl trivial ?_
        | refine x_beq rfl rfl rfl rfl trivial ?_
        | refine x_bne rfl rfl rfl rfl trivial ?_
        | refine x_extract rfl rfl rfl rfl trivial ?_
        | refine x_nilCheck rfl rfl rfl trivial ?_
        | refine x_fieldAddr rfl rfl rfl rfl trivial ?_
        | refine x_skip trivial rfl rfl rfl ?_
        | refine x_indexAddr1 rfl rfl rfl (by assumption) (by omega) (by omega) rfl trivial ?_
        | refine x_indexAddr rfl rfl rfl (by assumption) (by omega) (by omega) rfl trivial ?_
        | refine x_nil ?_
        | refine cw_seq ?_
        | refine nw_seq ?_
        | refine nw_block ?_
        | refine cw_block ?_
        | refine cw_skip ?_
        | refine cw_region ?_
        | refine cw_exit rfl ?_
        | refine cw_true rfl ?_
        | refine cw_false rfl ?_)
      refine cw_loop (fun s : Nat => [(0, .int .i64 k), (1, .int .i64 give), (2, .int .u64 n), (7, ptr b 0), (8, v), (12, .int .i64 (liveA a)), (14, .int .i64 s)])
        (fun s H' => s ≤ k ∧ H3 = H') (fun s => k - s) 0 (by repeat (first | exact True.intro | refine ⟨rfl, ?_⟩)) ⟨Nat.zero_le _, rfl⟩ ?_
      rintro j _ ⟨hj, rfl⟩
      repeat (first
        | refine x_move rfl rfl rfl trivial ?_
        | refine x_assign rfl rfl rfl trivial ?_
        | refine x_add rfl rfl rfl (wrap_i64 (by omega) (by omega)) rfl trivial ?_
        | refine x_sub_ rfl rfl rfl (wrap_i64 (by omega) (by omega)) rfl trivial ?_
        | refine x_sub_ rfl rfl rfl (wrap_u32 (by omega) (by omega)) rfl trivial ?_
        | refine x_add rfl rfl rfl (wrap_u32 (by omega) (by omega)) rfl trivial ?_
        | refine x_peqn rfl rfl rfl rfl trivial ?_
        | refine x_pnen rfl rfl rfl rfl trivial ?_
        | refine x_mul rfl rfl rfl (wrap_i64 (by omega) (by omega)) rfl trivial ?_
        | refine x_ibin rfl rfl rfl rfl rfl trivial ?_
        | refine x_neg_ rfl rfl (wrap_i64 (by omega) (by omega)) rfl trivial ?_
        | refine x_len rfl rfl (by assumption) rfl trivial ?_
        | refine x_pick_t rfl rfl rfl rfl trivial ?_
        | refine x_pick_f rfl rfl rfl rfl trivial ?_
        | refine x_not rfl rfl rfl trivial ?_
        | refine x_beq rfl rfl rfl rfl trivial ?_
        | refine x_bne rfl rfl rfl rfl trivial ?_
        | refine x_extract rfl rfl rfl rfl trivial ?_
        | refine x_nilCheck rfl rfl rfl trivial ?_
        | refine x_fieldAddr rfl rfl rfl rfl trivial ?_
        | refine x_skip trivial rfl rfl rfl ?_
        | refine x_indexAddr1 rfl rfl rfl (by assumption) (by omega) (by omega) rfl trivial ?_
        | refine x_indexAddr rfl rfl rfl (by assumption) (by omega) (by omega) rfl trivial ?_
        | refine x_nil ?_
        | refine cw_seq ?_
        | refine nw_seq ?_
        | refine nw_block ?_
        | refine cw_block ?_
        | refine cw_skip ?_
        | refine cw_region ?_
        | refine cw_exit rfl ?_
        | refine cw_true rfl ?_
        | refine cw_false rfl ?_)
      refine cw_cond rfl (fun hlt3 => ?_) (fun hlt3 => ?_) <;> (try simp at hlt3)
      · have hgj : (List.range' 1 k)[j]? = some (j + 1) := by rw [List.getElem?_range' hlt3]; simp; omega
        obtain ⟨y, hy, hcv⟩ := hV3.rd.cel1 encU_len hgj
        rw [hy] at hcv
        have hat := hK.at_ j hlt3
        have h01 := bt_01 give j
        repeat (first
          | refine x_move rfl rfl rfl trivial ?_
          | refine x_assign rfl rfl rfl trivial ?_
          | refine x_add rfl rfl rfl (wrap_i64 (by omega) (by omega)) rfl trivial ?_
          | refine x_sub_ rfl rfl rfl (wrap_i64 (by omega) (by omega)) rfl trivial ?_
          | refine x_sub_ rfl rfl rfl (wrap_u32 (by omega) (by omega)) rfl trivial ?_
          | refine x_add rfl rfl rfl (wrap_u32 (by omega) (by omega)) rfl trivial ?_
          | refine x_peqn rfl rfl rfl rfl trivial ?_
          | refine x_pnen rfl rfl rfl rfl trivial ?_
          | refine x_mul rfl rfl rfl (wrap_i64 (by omega) (by omega)) rfl trivial ?_
          | refine x_ibin rfl rfl rfl rfl rfl trivial ?_
          | refine x_neg_ rfl rfl (wrap_i64 (by omega) (by omega)) rfl trivial ?_
          | refine x_len rfl rfl (by assumption) rfl trivial ?_
          | refine x_pick_t rfl rfl rfl rfl trivial ?_
          | refine x_pick_f rfl rfl rfl rfl trivial ?_
          | refine x_not rfl rfl rfl trivial ?_
          | refine x_beq rfl rfl rfl rfl trivial ?_
          | refine x_bne rfl rfl rfl rfl trivial ?_
          | refine x_extract rfl rfl rfl rfl trivial ?_
          | refine x_nilCheck rfl rfl rfl trivial ?_
          | refine x_fieldAddr rfl rfl rfl rfl trivial ?_
          | refine x_skip trivial rfl rfl rfl ?_
          | refine x_indexAddr1 rfl rfl rfl (by assumption) (by omega) (by omega) rfl trivial ?_
          | refine x_indexAddr rfl rfl rfl (by assumption) (by omega) (by omega) rfl trivial ?_
          | refine x_nil ?_
          | refine cw_seq ?_
          | refine nw_seq ?_
          | refine nw_block ?_
          | refine cw_block ?_
          | refine cw_skip ?_
          | refine cw_region ?_
          | refine cw_exit rfl ?_
          | refine cw_true rfl ?_
          | refine cw_false rfl ?_)
        refine x_load rfl rfl (hpmt (hcv)) rfl trivial ?_
        refine x_call rfl rfl rfl trivial (as_Get (h := j + 1) (i := 1) hA3 (by omega) (by omega)) ?_
        rintro _ _ ⟨rfl, rfl⟩
        refine ⟨trivial, ?_⟩
        repeat (first
          | refine x_move rfl rfl rfl trivial ?_
          | refine x_assign rfl rfl rfl trivial ?_
          | refine x_add rfl rfl rfl (wrap_i64 (by omega) (by omega)) rfl trivial ?_
          | refine x_sub_ rfl rfl rfl (wrap_i64 (by omega) (by omega)) rfl trivial ?_
          | refine x_sub_ rfl rfl rfl (wrap_u32 (by omega) (by omega)) rfl trivial ?_
          | refine x_add rfl rfl rfl (wrap_u32 (by omega) (by omega)) rfl trivial ?_
          | refine x_peqn rfl rfl rfl rfl trivial ?_
          | refine x_pnen rfl rfl rfl rfl trivial ?_
          | refine x_mul rfl rfl rfl (wrap_i64 (by omega) (by omega)) rfl trivial ?_
          | refine x_ibin rfl rfl rfl rfl rfl trivial ?_
          | refine x_neg_ rfl rfl (wrap_i64 (by omega) (by omega)) rfl trivial ?_
          | refine x_len rfl rfl (by assumption) rfl trivial ?_
          | refine x_pick_t rfl rfl rfl rfl trivial ?_
          | refine x_pick_f rfl rfl rfl rfl trivial ?_
          | refine x_not rfl rfl rfl trivial ?_
          | refine x_beq rfl rfl rfl rfl trivial ?_
          | refine x_bne rfl rfl rfl rfl trivial ?_
          | refine x_extract rfl rfl rfl rfl trivial ?_
          | refine x_nilCheck rfl rfl rfl trivial ?_
          | refine x_fieldAddr rfl rfl rfl rfl trivial ?_
          | refine x_skip trivial rfl rfl rfl ?_
          | refine x_indexAddr1 rfl rfl rfl (by assumption) (by omega) (by omega) rfl trivial ?_
          | refine x_indexAddr rfl rfl rfl (by assumption) (by omega) (by omega) rfl trivial ?_
          | refine x_nil ?_
          | refine cw_seq ?_
          | refine nw_seq ?_
          | refine nw_block ?_
          | refine cw_block ?_
          | refine cw_skip ?_
          | refine cw_region ?_
          | refine cw_exit rfl ?_
          | refine cw_true rfl ?_
          | refine cw_false rfl ?_)
        refine x_load rfl rfl (hpmt (hcv)) rfl trivial ?_
        refine x_call rfl rfl rfl trivial (as_Get (h := j + 1) (i := 2) hA3 (by omega) (by omega)) ?_
        rintro _ _ ⟨rfl, rfl⟩
        refine ⟨trivial, ?_⟩
        repeat (first
          | refine x_move rfl rfl rfl trivial ?_
          | refine x_assign rfl rfl rfl trivial ?_
          | refine x_add rfl rfl rfl (wrap_i64 (by omega) (by omega)) rfl trivial ?_
          | refine x_sub_ rfl rfl rfl (wrap_i64 (by omega) (by omega)) rfl trivial ?_
          | refine x_sub_ rfl rfl rfl (wrap_u32 (by omega) (by omega)) rfl trivial ?_
          | refine x_add rfl rfl rfl (wrap_u32 (by omega) (by omega)) rfl trivial ?_
          | refine x_peqn rfl rfl rfl rfl trivial ?_
          | refine x_pnen rfl rfl rfl rfl trivial ?_
          | refine x_mul rfl rfl rfl (wrap_i64 (by omega) (by omega)) rfl trivial ?_
          | refine x_ibin rfl rfl rfl rfl rfl trivial ?_
          | refine x_neg_ rfl rfl (wrap_i64 (by omega) (by omega)) rfl trivial ?_
          | refine x_len rfl rfl (by assumption) rfl trivial ?_
          | refine x_pick_t rfl rfl rfl rfl trivial ?_
          | refine x_pick_f rfl rfl rfl rfl trivial ?_
          | refine x_not rfl rfl rfl trivial ?_
          | refine x_beq rfl rfl rfl rfl trivial ?_
          | refine x_bne rfl rfl rfl rfl trivial ?_
          | refine x_extract rfl rfl rfl rfl trivial ?_
          | refine x_nilCheck rfl rfl rfl trivial ?_
          | refine x_fieldAddr rfl rfl rfl rfl trivial ?_
          | refine x_skip trivial rfl rfl rfl ?_
          | refine x_indexAddr1 rfl rfl rfl (by assumption) (by omega) (by omega) rfl trivial ?_
          | refine x_indexAddr rfl rfl rfl (by assumption) (by omega) (by omega) rfl trivial ?_
          | refine x_nil ?_
          | refine cw_seq ?_
          | refine nw_seq ?_
          | refine nw_block ?_
          | refine cw_block ?_
          | refine cw_skip ?_
          | refine cw_region ?_
          | refine cw_exit rfl ?_
          | refine cw_true rfl ?_
          | refine cw_false rfl ?_)
        refine x_shr rfl rfl rfl (by omega) rfl trivial ?_
        rcases h01 with hb | hb
        · rw [if_neg (by omega)] at hat
          have hh : hasA a (j + 1) = true := hasA_iff.2 ⟨by omega, _, hat⟩
          have hwd : wordsA a (j + 1) = [n, w64 j, s64 n j] := by unfold wordsA; rw [Nat.add_sub_cancel, hat]; rfl
          have h1 : errA a (j + 1) 1 = 0 := by unfold errA; rw [if_neg (by rw [hh]; simp), hwd, if_neg (by simp)]
          have h2 : errA a (j + 1) 2 = 0 := by unfold errA; rw [if_neg (by rw [hh]; simp), hwd, if_neg (by simp)]
          have g1 : getA a (j + 1) 1 = w64 j := by unfold getA; rw [if_pos h1, hwd]; rfl
          have g2 : getA a (j + 1) 2 = s64 n j := by unfold getA; rw [if_pos h2, hwd]; rfl
          rw [h1, h2, g1, g2]
          repeat (first
            | refine x_move rfl rfl rfl trivial ?_
            | refine x_assign rfl rfl rfl trivial ?_
            | refine x_add rfl rfl rfl (wrap_i64 (by omega) (by omega)) rfl trivial ?_
            | refine x_sub_ rfl rfl rfl (wrap_i64 (by omega) (by omega)) rfl trivial ?_
            | refine x_sub_ rfl rfl rfl (wrap_u32 (by omega) (by omega)) rfl trivial ?_
            | refine x_add rfl rfl rfl (wrap_u32 (by omega) (by omega)) rfl trivial ?_
            | refine x_peqn rfl rfl rfl rfl trivial ?_
            | refine x_pnen rfl rfl rfl rfl trivial ?_
            | refine x_mul rfl rfl rfl (wrap_i64 (by omega) (by omega)) rfl trivial ?_
            | refine x_ibin rfl rfl rfl rfl rfl trivial ?_
            | refine x_neg_ rfl rfl (wrap_i64 (by omega) (by omega)) rfl trivial ?_
            | refine x_len rfl rfl (by assumption) rfl trivial ?_
            | refine x_pick_t rfl rfl rfl rfl trivial ?_
            | refine x_pick_f rfl rfl rfl rfl trivial ?_
            | refine x_not rfl rfl rfl trivial ?_
            | refine x_beq rfl rfl rfl rfl trivial ?_
            | refine x_bne rfl rfl rfl rfl trivial ?_
            | refine x_extract rfl rfl rfl rfl trivial ?_
            | refine x_nilCheck rfl rfl rfl trivial ?_
            | refine x_fieldAddr rfl rfl rfl rfl trivial ?_
            | refine x_skip trivial rfl rfl rfl ?_
            | refine x_indexAddr1 rfl rfl rfl (by assumption) (by omega) (by omega) rfl trivial ?_
            | refine x_indexAddr rfl rfl rfl (by assumption) (by omega) (by omega) rfl trivial ?_
            | refine x_nil ?_
            | refine cw_seq ?_
            | refine nw_seq ?_
            | refine nw_block ?_
            | refine cw_block ?_
            | refine cw_skip ?_
            | refine cw_region ?_
            | refine cw_exit rfl ?_
            | refine cw_true rfl ?_
            | refine cw_false rfl ?_)
          refine x_false 120 rfl (by (show (!(((0 : Int) == 0) == (bt give j == 0))) = false; rw [hb]; rfl)) ?_
          repeat (first
            | refine x_move rfl rfl rfl trivial ?_
            | refine x_assign rfl rfl rfl trivial ?_
            | refine x_add rfl rfl rfl (wrap_i64 (by omega) (by omega)) rfl trivial ?_
            | refine x_sub_ rfl rfl rfl (wrap_i64 (by omega) (by omega)) rfl trivial ?_
            | refine x_sub_ rfl rfl rfl (wrap_u32 (by omega) (by omega)) rfl trivial ?_
            | refine x_add rfl rfl rfl (wrap_u32 (by omega) (by omega)) rfl trivial ?_
            | refine x_peqn rfl rfl rfl rfl trivial ?_
            | refine x_pnen rfl rfl rfl rfl trivial ?_
            | refine x_mul rfl rfl rfl (wrap_i64 (by omega) (by omega)) rfl trivial ?_
            | refine x_ibin rfl rfl rfl rfl rfl trivial ?_
            | refine x_neg_ rfl rfl (wrap_i64 (by omega) (by omega)) rfl trivial ?_
            | refine x_len rfl rfl (by assumption) rfl trivial ?_
            | refine x_pick_t rfl rfl rfl rfl trivial ?_
            | refine x_pick_f rfl rfl rfl rfl trivial ?_
            | refine x_not rfl rfl rfl trivial ?_
            | refine x_beq rfl rfl rfl rfl trivial ?_
            | refine x_bne rfl rfl rfl rfl trivial ?_
            | refine x_extract rfl rfl rfl rfl trivial ?_
            | refine x_nilCheck rfl rfl rfl trivial ?_
            | refine x_fieldAddr rfl rfl rfl rfl trivial ?_
            | refine x_skip trivial rfl rfl rfl ?_
            | refine x_indexAddr1 rfl rfl rfl (by assumption) (by omega) (by omega) rfl trivial ?_
            | refine x_indexAddr rfl rfl rfl (by assumption) (by omega) (by omega) rfl trivial ?_
            | refine x_nil ?_
            | refine cw_seq ?_
            | refine nw_seq ?_
            | refine nw_block ?_
            | refine cw_block ?_
            | refine cw_skip ?_
            | refine cw_region ?_
            | refine cw_exit rfl ?_
            | refine cw_true rfl ?_
            | refine cw_false rfl ?_)
          refine x_false 126 rfl (by (show (!(((0 : Int) == 0) == (bt give j == 0))) = false; rw [hb]; rfl)) ?_
          repeat (first
            | refine x_move rfl rfl rfl trivial ?_
            | refine x_assign rfl rfl rfl trivial ?_
            | refine x_add rfl rfl rfl (wrap_i64 (by omega) (by omega)) rfl trivial ?_
            | refine x_sub_ rfl rfl rfl (wrap_i64 (by omega) (by omega)) rfl trivial ?_
            | refine x_sub_ rfl rfl rfl (wrap_u32 (by omega) (by omega)) rfl trivial ?_
            | refine x_add rfl rfl rfl (wrap_u32 (by omega) (by omega)) rfl trivial ?_
            | refine x_peqn rfl rfl rfl rfl trivial ?_
            | refine x_pnen rfl rfl rfl rfl trivial ?_
            | refine x_mul rfl rfl rfl (wrap_i64 (by omega) (by omega)) rfl trivial ?_
            | refine x_ibin rfl rfl rfl rfl rfl trivial ?_
            | refine x_neg_ rfl rfl (wrap_i64 (by omega) (by omega)) rfl trivial ?_
            | refine x_len rfl rfl (by assumption) rfl trivial ?_
            | refine x_pick_t rfl rfl rfl rfl trivial ?_
            | refine x_pick_f rfl rfl rfl rfl trivial ?_
            | refine x_not rfl rfl rfl trivial ?_
            | refine x_beq rfl rfl rfl rfl trivial ?_
            | refine x_bne rfl rfl rfl rfl trivial ?_
            | refine x_extract rfl rfl rfl rfl trivial ?_
            | refine x_nilCheck rfl rfl rfl trivial ?_
            | refine x_fieldAddr rfl rfl rfl rfl trivial ?_
            | refine x_skip trivial rfl rfl rfl ?_
            | refine x_indexAddr1 rfl rfl rfl (by assumption) (by omega) (by omega) rfl trivial ?_
            | refine x_indexAddr rfl rfl rfl (by assumption) (by omega) (by omega) rfl trivial ?_
            | refine x_nil ?_
            | refine cw_seq ?_
            | refine nw_seq ?_
            | refine nw_block ?_
            | refine cw_block ?_
            | refine cw_skip ?_
            | refine cw_region ?_
            | refine cw_exit rfl ?_
            | refine cw_true rfl ?_
            | refine cw_false rfl ?_)
          refine x_true 128 rfl (by (show (bt give j == 0) = true; rw [hb]; rfl)) ?_
          repeat (first
            | refine x_move rfl rfl rfl trivial ?_
            | refine x_assign rfl rfl rfl trivial ?_
            | refine x_add rfl rfl rfl (wrap_i64 (by omega) (by omega)) rfl trivial ?_
            | refine x_sub_ rfl rfl rfl (wrap_i64 (by omega) (by omega)) rfl trivial ?_
            | refine x_sub_ rfl rfl rfl (wrap_u32 (by omega) (by omega)) rfl trivial ?_
            | refine x_add rfl rfl rfl (wrap_u32 (by omega) (by omega)) rfl trivial ?_
            | refine x_peqn rfl rfl rfl rfl trivial ?_
            | refine x_pnen rfl rfl rfl rfl trivial ?_
            | refine x_mul rfl rfl rfl (wrap_i64 (by omega) (by omega)) rfl trivial ?_
            | refine x_ibin rfl rfl rfl rfl rfl trivial ?_
            | refine x_neg_ rfl rfl (wrap_i64 (by omega) (by omega)) rfl trivial ?_
            | refine x_len rfl rfl (by assumption) rfl trivial ?_
            | refine x_pick_t rfl rfl rfl rfl trivial ?_
            | refine x_pick_f rfl rfl rfl rfl trivial ?_
            | refine x_not rfl rfl rfl trivial ?_
            | refine x_beq rfl rfl rfl rfl trivial ?_
            | refine x_bne rfl rfl rfl rfl trivial ?_
            | refine x_extract rfl rfl rfl rfl trivial ?_
            | refine x_nilCheck rfl rfl rfl trivial ?_
            | refine x_fieldAddr rfl rfl rfl rfl trivial ?_
            | refine x_skip trivial rfl rfl rfl ?_
            | refine x_indexAddr1 rfl rfl rfl (by assumption) (by omega) (by omega) rfl trivial ?_
            | refine x_indexAddr rfl rfl rfl (by assumption) (by omega) (by omega) rfl trivial ?_
            | refine x_nil ?_
            | refine cw_seq ?_
            | refine nw_seq ?_
            | refine nw_block ?_
            | refine cw_block ?_
            | refine cw_skip ?_
            | refine cw_region ?_
            | refine cw_exit rfl ?_
            | refine cw_true rfl ?_
            | refine cw_false rfl ?_)
          refine x_conv_int rfl rfl rfl trivial ?_
          repeat (first
            | refine x_move rfl rfl rfl trivial ?_
            | refine x_assign rfl rfl rfl trivial ?_
            | refine x_add rfl rfl rfl (wrap_i64 (by omega) (by omega)) rfl trivial ?_
            | refine x_sub_ rfl rfl rfl (wrap_i64 (by omega) (by omega)) rfl trivial ?_
            | refine x_sub_ rfl rfl rfl (wrap_u32 (by omega) (by omega)) rfl trivial ?_
            | refine x_add rfl rfl rfl (wrap_u32 (by omega) (by omega)) rfl trivial ?_
            | refine x_peqn rfl rfl rfl rfl trivial ?_
            | refine x_pnen rfl rfl rfl rfl trivial ?_
            | refine x_mul rfl rfl rfl (wrap_i64 (by omega) (by omega)) rfl trivial ?_
            | refine x_ibin rfl rfl rfl rfl rfl trivial ?_
            | refine x_neg_ rfl rfl (wrap_i64 (by omega) (by omega)) rfl trivial ?_
            | refine x_len rfl rfl (by assumption) rfl trivial ?_
            | refine x_pick_t rfl rfl rfl rfl trivial ?_
            | refine x_pick_f rfl rfl rfl rfl trivial ?_
            | refine x_not rfl rfl rfl trivial ?_
            | refine x_beq rfl rfl rfl rfl trivial ?_
            | refine x_bne rfl rfl rfl rfl trivial ?_
            | refine x_extract rfl rfl rfl rfl trivial ?_
            | refine x_nilCheck rfl rfl rfl trivial ?_
            | refine x_fieldAddr rfl rfl rfl rfl trivial ?_
            | refine x_skip trivial rfl rfl rfl ?_
            | refine x_indexAddr1 rfl rfl rfl (by assumption) (by omega) (by omega) rfl trivial ?_
            | refine x_indexAddr rfl rfl rfl (by assumption) (by omega) (by omega) rfl trivial ?_
            | refine x_nil ?_
            | refine cw_seq ?_
            | refine nw_seq ?_
            | refine nw_block ?_
            | refine cw_block ?_
            | refine cw_skip ?_
            | refine cw_region ?_
            | refine cw_exit rfl ?_
            | refine cw_true rfl ?_
            | refine cw_false rfl ?_)
          refine x_false 133 rfl (by simp [w64]) ?_
          repeat (first
            | refine x_move rfl rfl rfl trivial ?_
            | refine x_assign rfl rfl rfl trivial ?_
            | refine x_add rfl rfl rfl (wrap_i64 (by omega) (by omega)) rfl trivial ?_
            | refine x_sub_ rfl rfl rfl (wrap_i64 (by omega) (by omega)) rfl trivial ?_
            | refine x_sub_ rfl rfl rfl (wrap_u32 (by omega) (by omega)) rfl trivial ?_
            | refine x_add rfl rfl rfl (wrap_u32 (by omega) (by omega)) rfl trivial ?_
            | refine x_peqn rfl rfl rfl rfl trivial ?_
            | refine x_pnen rfl rfl rfl rfl trivial ?_
            | refine x_mul rfl rfl rfl (wrap_i64 (by omega) (by omega)) rfl trivial ?_
            | refine x_ibin rfl rfl rfl rfl rfl trivial ?_
            | refine x_neg_ rfl rfl (wrap_i64 (by omega) (by omega)) rfl trivial ?_
            | refine x_len rfl rfl (by assumption) rfl trivial ?_
            | refine x_pick_t rfl rfl rfl rfl trivial ?_
            | refine x_pick_f rfl rfl rfl rfl trivial ?_
            | refine x_not rfl rfl rfl trivial ?_
            | refine x_beq rfl rfl rfl rfl trivial ?_
            | refine x_bne rfl rfl rfl rfl trivial ?_
            | refine x_extract rfl rfl rfl rfl trivial ?_
            | refine x_nilCheck rfl rfl rfl trivial ?_
            | refine x_fieldAddr rfl rfl rfl rfl trivial ?_
            | refine x_skip trivial rfl rfl rfl ?_
            | refine x_indexAddr1 rfl rfl rfl (by assumption) (by omega) (by omega) rfl trivial ?_
            | refine x_indexAddr rfl rfl rfl (by assumption) (by omega) (by omega) rfl trivial ?_
            | refine x_nil ?_
            | refine cw_seq ?_
            | refine nw_seq ?_
            | refine nw_block ?_
            | refine cw_block ?_
            | refine cw_skip ?_
            | refine cw_region ?_
            | refine cw_exit rfl ?_
            | refine cw_true rfl ?_
            | refine cw_false rfl ?_)
          refine x_conv_int rfl rfl rfl trivial ?_
          repeat (first
            | refine x_move rfl rfl rfl trivial ?_
            | refine x_assign rfl rfl rfl trivial ?_
            | refine x_add rfl rfl rfl (wrap_i64 (by omega) (by omega)) rfl trivial ?_
            | refine x_sub_ rfl rfl rfl (wrap_i64 (by omega) (by omega)) rfl trivial ?_
            | refine x_sub_ rfl rfl rfl (wrap_u32 (by omega) (by omega)) rfl trivial ?_
            | refine x_add rfl rfl rfl (wrap_u32 (by omega) (by omega)) rfl trivial ?_
            | refine x_peqn rfl rfl rfl rfl trivial ?_
            | refine x_pnen rfl rfl rfl rfl trivial ?_
            | refine x_mul rfl rfl rfl (wrap_i64 (by omega) (by omega)) rfl trivial ?_
            | refine x_ibin rfl rfl rfl rfl rfl trivial ?_
            | refine x_neg_ rfl rfl (wrap_i64 (by omega) (by omega)) rfl trivial ?_
            | refine x_len rfl rfl (by assumption) rfl trivial ?_
            | refine x_pick_t rfl rfl rfl rfl trivial ?_
            | refine x_pick_f rfl rfl rfl rfl trivial ?_
            | refine x_not rfl rfl rfl trivial ?_
            | refine x_beq rfl rfl rfl rfl trivial ?_
            | refine x_bne rfl rfl rfl rfl trivial ?_
            | refine x_extract rfl rfl rfl rfl trivial ?_
            | refine x_nilCheck rfl rfl rfl trivial ?_
            | refine x_fieldAddr rfl rfl rfl rfl trivial ?_
            | refine x_skip trivial rfl rfl rfl ?_
            | refine x_indexAddr1 rfl rfl rfl (by assumption) (by omega) (by omega) rfl trivial ?_
            | refine x_indexAddr rfl rfl rfl (by assumption) (by omega) (by omega) rfl trivial ?_
            | refine x_nil ?_
            | refine cw_seq ?_
            | refine nw_seq ?_
            | refine nw_block ?_
            | refine cw_block ?_
            | refine cw_skip ?_
            | refine cw_region ?_
            | refine cw_exit rfl ?_
            | refine cw_true rfl ?_
            | refine cw_false rfl ?_)
          refine cw_cond rfl (fun h => absurd h (by simp [s64, w64])) (fun _ => ?_)
          repeat (first
            | refine x_move rfl rfl rfl trivial ?_
            | refine x_assign rfl rfl rfl trivial ?_
            | refine x_add rfl rfl rfl (wrap_i64 (by omega) (by omega)) rfl trivial ?_
            | refine x_sub_ rfl rfl rfl (wrap_i64 (by omega) (by omega)) rfl trivial ?_
            | refine x_sub_ rfl rfl rfl (wrap_u32 (by omega) (by omega)) rfl trivial ?_
            | refine x_add rfl rfl rfl (wrap_u32 (by omega) (by omega)) rfl trivial ?_
            | refine x_peqn rfl rfl rfl rfl trivial ?_
            | refine x_pnen rfl rfl rfl rfl trivial ?_
            | refine x_mul rfl rfl rfl (wrap_i64 (by omega) (by omega)) rfl trivial ?_
            | refine x_ibin rfl rfl rfl rfl rfl trivial ?_
            | refine x_neg_ rfl rfl (wrap_i64 (by omega) (by omega)) rfl trivial ?_
            | refine x_len rfl rfl (by assumption) rfl trivial ?_
            | refine x_pick_t rfl rfl rfl rfl trivial ?_
            | refine x_pick_f rfl rfl rfl rfl trivial ?_
            | refine x_not rfl rfl rfl trivial ?_
            | refine x_beq rfl rfl rfl rfl trivial ?_
            | refine x_bne rfl rfl rfl rfl trivial ?_
            | refine x_extract rfl rfl rfl rfl trivial ?_
            | refine x_nilCheck rfl rfl rfl trivial ?_
            | refine x_fieldAddr rfl rfl rfl rfl trivial ?_
            | refine x_skip trivial rfl rfl rfl ?_
            | refine x_indexAddr1 rfl rfl rfl (by assumption) (by omega) (by omega) rfl trivial ?_
            | refine x_indexAddr rfl rfl rfl (by assumption) (by omega) (by omega) rfl trivial ?_
            | refine x_nil ?_
            | refine cw_seq ?_
            | refine nw_seq ?_
            | refine nw_block ?_
            | refine cw_block ?_
            | refine cw_skip ?_
            | refine cw_region ?_
            | refine cw_exit rfl ?_
            | refine cw_true rfl ?_
            | refine cw_false rfl ?_)
          exact nw_round (j + 1) (by repeat (first | exact True.intro | refine ⟨rfl, ?_⟩)) ⟨by omega, rfl⟩ (by omega)
        · rw [if_pos ⟨hlt3, hb⟩] at hat
          have hh : hasA a (j + 1) = false := by unfold hasA; rw [Nat.add_sub_cancel, hat]; simp
          have h1 : errA a (j + 1) 1 = 5 := by unfold errA; rw [if_pos hh]
          have h2 : errA a (j + 1) 2 = 5 := by unfold errA; rw [if_pos hh]
          have g1 : getA a (j + 1) 1 = 0 := by unfold getA; rw [if_neg (by omega)]
          have g2 : getA a (j + 1) 2 = 0 := by unfold getA; rw [if_neg (by omega)]
          rw [h1, h2, g1, g2]
          repeat (first
            | refine x_move rfl rfl rfl trivial ?_
            | refine x_assign rfl rfl rfl trivial ?_
            | refine x_add rfl rfl rfl (wrap_i64 (by omega) (by omega)) rfl trivial ?_
            | refine x_sub_ rfl rfl rfl (wrap_i64 (by omega) (by omega)) rfl trivial ?_
            | refine x_sub_ rfl rfl rfl (wrap_u32 (by omega) (by omega)) rfl trivial ?_
            | refine x_add rfl rfl rfl (wrap_u32 (by omega) (by omega)) rfl trivial ?_
            | refine x_peqn rfl rfl rfl rfl trivial ?_
            | refine x_pnen rfl rfl rfl rfl trivial ?_
            | refine x_mul rfl rfl rfl (wrap_i64 (by omega) (by omega)) rfl trivial ?_
            | refine x_ibin rfl rfl rfl rfl rfl trivial ?_
            | refine x_neg_ rfl rfl (wrap_i64 (by omega) (by omega)) rfl trivial ?_
            | refine x_len rfl rfl (by assumption) rfl trivial ?_
            | refine x_pick_t rfl rfl rfl rfl trivial ?_
            | refine x_pick_f rfl rfl rfl rfl trivial ?_
            | refine x_not rfl rfl rfl trivial ?_
            | refine x_beq rfl rfl rfl rfl trivial ?_
            | refine x_bne rfl rfl rfl rfl trivial ?_
            | refine x_extract rfl rfl rfl rfl trivial ?_
            | refine x_nilCheck rfl rfl rfl trivial ?_
            | refine x_fieldAddr rfl rfl rfl rfl trivial ?_
            | refine x_skip trivial rfl rfl rfl ?_
            | refine x_indexAddr1 rfl rfl rfl (by assumption) (by omega) (by omega) rfl trivial ?_
            | refine x_indexAddr rfl rfl rfl (by assumption) (by omega) (by omega) rfl trivial ?_
            | refine x_nil ?_
            | refine cw_seq ?_
            | refine nw_seq ?_
            | refine nw_block ?_
            | refine cw_block ?_
            | refine cw_skip ?_
            | refine cw_region ?_
            | refine cw_exit rfl ?_
            | refine cw_true rfl ?_
            | refine cw_false rfl ?_)
          refine x_false 120 rfl (by (show (!(((5 : Int) == 0) == (bt give j == 0))) = false; rw [hb]; rfl)) ?_
          repeat (first
            | refine x_move rfl rfl rfl trivial ?_
            | refine x_assign rfl rfl rfl trivial ?_
            | refine x_add rfl rfl rfl (wrap_i64 (by omega) (by omega)) rfl trivial ?_
            | refine x_sub_ rfl rfl rfl (wrap_i64 (by omega) (by omega)) rfl trivial ?_
            | refine x_sub_ rfl rfl rfl (wrap_u32 (by omega) (by omega)) rfl trivial ?_
            | refine x_add rfl rfl rfl (wrap_u32 (by omega) (by omega)) rfl trivial ?_
            | refine x_peqn rfl rfl rfl rfl trivial ?_
            | refine x_pnen rfl rfl rfl rfl trivial ?_
            | refine x_mul rfl rfl rfl (wrap_i64 (by omega) (by omega)) rfl trivial ?_
            | refine x_ibin rfl rfl rfl rfl rfl trivial ?_
            | refine x_neg_ rfl rfl (wrap_i64 (by omega) (by omega)) rfl trivial ?_
            | refine x_len rfl rfl (by assumption) rfl trivial ?_
            | refine x_pick_t rfl rfl rfl rfl trivial ?_
            | refine x_pick_f rfl rfl rfl rfl trivial ?_
            | refine x_not rfl rfl rfl trivial ?_
            | refine x_beq rfl rfl rfl rfl trivial ?_
            | refine x_bne rfl rfl rfl rfl trivial ?_
            | refine x_extract rfl rfl rfl rfl trivial ?_
            | refine x_nilCheck rfl rfl rfl trivial ?_
            | refine x_fieldAddr rfl rfl rfl rfl trivial ?_
            | refine x_skip trivial rfl rfl rfl ?_
            | refine x_indexAddr1 rfl rfl rfl (by assumption) (by omega) (by omega) rfl trivial ?_
            | refine x_indexAddr rfl rfl rfl (by assumption) (by omega) (by omega) rfl trivial ?_
            | refine x_nil ?_
            | refine cw_seq ?_
            | refine nw_seq ?_
            | refine nw_block ?_
            | refine cw_block ?_
            | refine cw_skip ?_
            | refine cw_region ?_
            | refine cw_exit rfl ?_
            | refine cw_true rfl ?_
            | refine cw_false rfl ?_)
          refine x_false 126 rfl (by (show (!(((5 : Int) == 0) == (bt give j == 0))) = false; rw [hb]; rfl)) ?_
          repeat (first
            | refine x_move rfl rfl rfl trivial ?_
            | refine x_assign rfl rfl rfl trivial ?_
            | refine x_add rfl rfl rfl (wrap_i64 (by omega) (by omega)) rfl trivial ?_
            | refine x_sub_ rfl rfl rfl (wrap_i64 (by omega) (by omega)) rfl trivial ?_
            | refine x_sub_ rfl rfl rfl (wrap_u32 (by omega) (by omega)) rfl trivial ?_
            | refine x_add rfl rfl rfl (wrap_u32 (by omega) (by omega)) rfl trivial ?_
            | refine x_peqn rfl rfl rfl rfl trivial ?_
            | refine x_pnen rfl rfl rfl rfl trivial ?_
            | refine x_mul rfl rfl rfl (wrap_i64 (by omega) (by omega)) rfl trivial ?_
            | refine x_ibin rfl rfl rfl rfl rfl trivial ?_
            | refine x_neg_ rfl rfl (wrap_i64 (by omega) (by omega)) rfl trivial ?_
            | refine x_len rfl rfl (by assumption) rfl trivial ?_
            | refine x_pick_t rfl rfl rfl rfl trivial ?_
            | refine x_pick_f rfl rfl rfl rfl trivial ?_
            | refine x_not rfl rfl rfl trivial ?_
            | refine x_beq rfl rfl rfl rfl trivial ?_
            | refine x_bne rfl rfl rfl rfl trivial ?_
            | refine x_extract rfl rfl rfl rfl trivial ?_
            | refine x_nilCheck rfl rfl rfl trivial ?_
            | refine x_fieldAddr rfl rfl rfl rfl trivial ?_
            | refine x_skip trivial rfl rfl rfl ?_
            | refine x_indexAddr1 rfl rfl rfl (by assumption) (by omega) (by omega) rfl trivial ?_
            | refine x_indexAddr rfl rfl rfl (by assumption) (by omega) (by omega) rfl trivial ?_
            | refine x_nil ?_
            | refine cw_seq ?_
            | refine nw_seq ?_
            | refine nw_block ?_
            | refine cw_block ?_
            | refine cw_skip ?_
            | refine cw_region ?_
            | refine cw_exit rfl ?_
            | refine cw_true rfl ?_
            | refine cw_false rfl ?_)
          refine x_false 128 rfl (by (show (bt give j == 0) = false; rw [hb]; rfl)) ?_
          repeat (first
            | refine x_move rfl rfl rfl trivial ?_
            | refine x_assign rfl rfl rfl trivial ?_
            | refine x_add rfl rfl rfl (wrap_i64 (by omega) (by omega)) rfl trivial ?_
            | refine x_sub_ rfl rfl rfl (wrap_i64 (by omega) (by omega)) rfl trivial ?_
            | refine x_sub_ rfl rfl rfl (wrap_u32 (by omega) (by omega)) rfl trivial ?_
            | refine x_add rfl rfl rfl (wrap_u32 (by omega) (by omega)) rfl trivial ?_
            | refine x_peqn rfl rfl rfl rfl trivial ?_
            | refine x_pnen rfl rfl rfl rfl trivial ?_
            | refine x_mul rfl rfl rfl (wrap_i64 (by omega) (by omega)) rfl trivial ?_
            | refine x_ibin rfl rfl rfl rfl rfl trivial ?_
            | refine x_neg_ rfl rfl (wrap_i64 (by omega) (by omega)) rfl trivial ?_
            | refine x_len rfl rfl (by assumption) rfl trivial ?_
            | refine x_pick_t rfl rfl rfl rfl trivial ?_
            | refine x_pick_f rfl rfl rfl rfl trivial ?_
            | refine x_not rfl rfl rfl trivial ?_
            | refine x_beq rfl rfl rfl rfl trivial ?_
            | refine x_bne rfl rfl rfl rfl trivial ?_
            | refine x_extract rfl rfl rfl rfl trivial ?_
            | refine x_nilCheck rfl rfl rfl trivial ?_
            | refine x_fieldAddr rfl rfl rfl rfl trivial ?_
            | refine x_skip trivial rfl rfl rfl ?_
            | refine x_indexAddr1 rfl rfl rfl (by assumption) (by omega) (by omega) rfl trivial ?_
            | refine x_indexAddr rfl rfl rfl (by assumption) (by omega) (by omega) rfl trivial ?_
            | refine x_nil ?_
            | refine cw_seq ?_
            | refine nw_seq ?_
            | refine nw_block ?_
            | refine cw_block ?_
            | refine cw_skip ?_
            | refine cw_region ?_
            | refine cw_exit rfl ?_
            | refine cw_true rfl ?_
            | refine cw_false rfl ?_)
          exact nw_round (j + 1) (by repeat (first | exact True.intro | refine ⟨rfl, ?_⟩)) ⟨by omega, rfl⟩ (by omega)
      · have hjk : j = k := by omega
        subst hjk
        have hnil := isSl_nil
        repeat (first
          | refine x_move rfl rfl rfl trivial ?_
          | refine x_assign rfl rfl rfl trivial ?_
          | refine x_add rfl rfl rfl (wrap_i64 (by omega) (by omega)) rfl trivial ?_
          | refine x_sub_ rfl rfl rfl (wrap_i64 (by omega) (by omega)) rfl trivial ?_
          | refine x_sub_ rfl rfl rfl (wrap_u32 (by omega) (by omega)) rfl trivial ?_
          | refine x_add rfl rfl rfl (wrap_u32 (by omega) (by omega)) rfl trivial ?_
          | refine x_peqn rfl rfl rfl rfl trivial ?_
          | refine x_pnen rfl rfl rfl rfl trivial ?_
          | refine x_mul rfl rfl rfl (wrap_i64 (by omega) (by omega)) rfl trivial ?_
          | refine x_ibin rfl rfl rfl rfl rfl trivial ?_
          | refine x_neg_ rfl rfl (wrap_i64 (by omega) (by omega)) rfl trivial ?_
          | refine x_len rfl rfl (by assumption) rfl trivial ?_
          | refine x_pick_t rfl rfl rfl rfl trivial ?_
          | refine x_pick_f rfl rfl rfl rfl trivial ?_
          | refine x_not rfl rfl rfl trivial ?_
          | refine x_beq rfl rfl rfl rfl trivial ?_
          | refine x_bne rfl rfl rfl rfl trivial ?_
          | refine x_extract rfl rfl rfl rfl trivial ?_
          | refine x_nilCheck rfl rfl rfl trivial ?_
          | refine x_fieldAddr rfl rfl rfl rfl trivial ?_
          | refine x_skip trivial rfl rfl rfl ?_
          | refine x_indexAddr1 rfl rfl rfl (by assumption) (by omega) (by omega) rfl trivial ?_
          | refine x_indexAddr rfl rfl rfl (by assumption) (by omega) (by omega) rfl trivial ?_
          | refine x_nil ?_
          | refine cw_seq ?_
          | refine nw_seq ?_
          | refine nw_block ?_
          | refine cw_block ?_
          | refine cw_skip ?_
          | refine cw_region ?_
          | refine cw_exit rfl ?_
          | refine cw_true rfl ?_
          | refine cw_false rfl ?_)
        refine x_call rfl rfl rfl trivial (arena_Take0 _ H3) ?_
        rintro _ _ ⟨rfl, rfl⟩
        refine ⟨trivial, ?_⟩
        repeat (first
          | refine x_move rfl rfl rfl trivial ?_
          | refine x_assign rfl rfl rfl trivial ?_
          | refine x_add rfl rfl rfl (wrap_i64 (by omega) (by omega)) rfl trivial ?_
          | refine x_sub_ rfl rfl rfl (wrap_i64 (by omega) (by omega)) rfl trivial ?_
          | refine x_sub_ rfl rfl rfl (wrap_u32 (by omega) (by omega)) rfl trivial ?_
          | refine x_add rfl rfl rfl (wrap_u32 (by omega) (by omega)) rfl trivial ?_
          | refine x_peqn rfl rfl rfl rfl trivial ?_
          | refine x_pnen rfl rfl rfl rfl trivial ?_
          | refine x_mul rfl rfl rfl (wrap_i64 (by omega) (by omega)) rfl trivial ?_
          | refine x_ibin rfl rfl rfl rfl rfl trivial ?_
          | refine x_neg_ rfl rfl (wrap_i64 (by omega) (by omega)) rfl trivial ?_
          | refine x_len rfl rfl (by assumption) rfl trivial ?_
          | refine x_pick_t rfl rfl rfl rfl trivial ?_
          | refine x_pick_f rfl rfl rfl rfl trivial ?_
          | refine x_not rfl rfl rfl trivial ?_
          | refine x_beq rfl rfl rfl rfl trivial ?_
          | refine x_bne rfl rfl rfl rfl trivial ?_
          | refine x_extract rfl rfl rfl rfl trivial ?_
          | refine x_nilCheck rfl rfl rfl trivial ?_
          | refine x_fieldAddr rfl rfl rfl rfl trivial ?_
          | refine x_skip trivial rfl rfl rfl ?_
          | refine x_indexAddr1 rfl rfl rfl (by assumption) (by omega) (by omega) rfl trivial ?_
          | refine x_indexAddr rfl rfl rfl (by assumption) (by omega) (by omega) rfl trivial ?_
          | refine x_nil ?_
          | refine cw_seq ?_
          | refine nw_seq ?_
          | refine nw_block ?_
          | refine cw_block ?_
          | refine cw_skip ?_
          | refine cw_region ?_
          | refine cw_exit rfl ?_
          | refine cw_true rfl ?_
          | refine cw_false rfl ?_)
        refine x_call rfl rfl rfl trivial (as_Live (a := a) hA3 (by omega) (by omega)) ?_
        rintro _ _ ⟨rfl, rfl⟩
        refine ⟨trivial, ?_⟩
        repeat (first
          | refine x_move rfl rfl rfl trivial ?_
          | refine x_assign rfl rfl rfl trivial ?_
          | refine x_add rfl rfl rfl (wrap_i64 (by omega) (by omega)) rfl trivial ?_
          | refine x_sub_ rfl rfl rfl (wrap_i64 (by omega) (by omega)) rfl trivial ?_
          | refine x_sub_ rfl rfl rfl (wrap_u32 (by omega) (by omega)) rfl trivial ?_
          | refine x_add rfl rfl rfl (wrap_u32 (by omega) (by omega)) rfl trivial ?_
          | refine x_peqn rfl rfl rfl rfl trivial ?_
          | refine x_pnen rfl rfl rfl rfl trivial ?_
          | refine x_mul rfl rfl rfl (wrap_i64 (by omega) (by omega)) rfl trivial ?_
          | refine x_ibin rfl rfl rfl rfl rfl trivial ?_
          | refine x_neg_ rfl rfl (wrap_i64 (by omega) (by omega)) rfl trivial ?_
          | refine x_len rfl rfl (by assumption) rfl trivial ?_
          | refine x_pick_t rfl rfl rfl rfl trivial ?_
          | refine x_pick_f rfl rfl rfl rfl trivial ?_
          | refine x_not rfl rfl rfl trivial ?_
          | refine x_beq rfl rfl rfl rfl trivial ?_
          | refine x_bne rfl rfl rfl rfl trivial ?_
          | refine x_extract rfl rfl rfl rfl trivial ?_
          | refine x_nilCheck rfl rfl rfl trivial ?_
          | refine x_fieldAddr rfl rfl rfl rfl trivial ?_
          | refine x_skip trivial rfl rfl rfl ?_
          | refine x_indexAddr1 rfl rfl rfl (by assumption) (by omega) (by omega) rfl trivial ?_
          | refine x_indexAddr rfl rfl rfl (by assumption) (by omega) (by omega) rfl trivial ?_
          | refine x_nil ?_
          | refine cw_seq ?_
          | refine nw_seq ?_
          | refine nw_block ?_
          | refine cw_block ?_
          | refine cw_skip ?_
          | refine cw_region ?_
          | refine cw_exit rfl ?_
          | refine cw_true rfl ?_
          | refine cw_false rfl ?_)
        refine x_true 152 rfl (by simp) ?_
        repeat (first
          | refine x_move rfl rfl rfl trivial ?_
          | refine x_assign rfl rfl rfl trivial ?_
          | refine x_add rfl rfl rfl (wrap_i64 (by omega) (by omega)) rfl trivial ?_
          | refine x_sub_ rfl rfl rfl (wrap_i64 (by omega) (by omega)) rfl trivial ?_
          | refine x_sub_ rfl rfl rfl (wrap_u32 (by omega) (by omega)) rfl trivial ?_
          | refine x_add rfl rfl rfl (wrap_u32 (by omega) (by omega)) rfl trivial ?_
          | refine x_peqn rfl rfl rfl rfl trivial ?_
          | refine x_pnen rfl rfl rfl rfl trivial ?_
          | refine x_mul rfl rfl rfl (wrap_i64 (by omega) (by omega)) rfl trivial ?_
          | refine x_ibin rfl rfl rfl rfl rfl trivial ?_
          | refine x_neg_ rfl rfl (wrap_i64 (by omega) (by omega)) rfl trivial ?_
          | refine x_len rfl rfl (by assumption) rfl trivial ?_
          | refine x_pick_t rfl rfl rfl rfl trivial ?_
          | refine x_pick_f rfl rfl rfl rfl trivial ?_
          | refine x_not rfl rfl rfl trivial ?_
          | refine x_beq rfl rfl rfl rfl trivial ?_
          | refine x_bne rfl rfl rfl rfl trivial ?_
          | refine x_extract rfl rfl rfl rfl trivial ?_
          | refine x_nilCheck rfl rfl rfl trivial ?_
          | refine x_fieldAddr rfl rfl rfl rfl trivial ?_
          | refine x_skip trivial rfl rfl rfl ?_
          | refine x_indexAddr1 rfl rfl rfl (by assumption) (by omega) (by omega) rfl trivial ?_
          | refine x_indexAddr rfl rfl rfl (by assumption) (by omega) (by omega) rfl trivial ?_
          | refine x_nil ?_
          | refine cw_seq ?_
          | refine nw_seq ?_
          | refine nw_block ?_
          | refine cw_block ?_
          | refine cw_skip ?_
          | refine cw_region ?_
          | refine cw_exit rfl ?_
          | refine cw_true rfl ?_
          | refine cw_false rfl ?_)
        refine x_call rfl rfl rfl trivial (as_Free (a := a) hA3 hwa (by omega) (by omega)) ?_
        rintro _ _ ⟨rfl, rfl⟩
        refine ⟨trivial, ?_⟩
        repeat (first
          | refine x_move rfl rfl rfl trivial ?_
          | refine x_assign rfl rfl rfl trivial ?_
          | refine x_add rfl rfl rfl (wrap_i64 (by omega) (by omega)) rfl trivial ?_
          | refine x_sub_ rfl rfl rfl (wrap_i64 (by omega) (by omega)) rfl trivial ?_
          | refine x_sub_ rfl rfl rfl (wrap_u32 (by omega) (by omega)) rfl trivial ?_
          | refine x_add rfl rfl rfl (wrap_u32 (by omega) (by omega)) rfl trivial ?_
          | refine x_peqn rfl rfl rfl rfl trivial ?_
          | refine x_pnen rfl rfl rfl rfl trivial ?_
          | refine x_mul rfl rfl rfl (wrap_i64 (by omega) (by omega)) rfl trivial ?_
          | refine x_ibin rfl rfl rfl rfl rfl trivial ?_
          | refine x_neg_ rfl rfl (wrap_i64 (by omega) (by omega)) rfl trivial ?_
          | refine x_len rfl rfl (by assumption) rfl trivial ?_
          | refine x_pick_t rfl rfl rfl rfl trivial ?_
          | refine x_pick_f rfl rfl rfl rfl trivial ?_
          | refine x_not rfl rfl rfl trivial ?_
          | refine x_beq rfl rfl rfl rfl trivial ?_
          | refine x_bne rfl rfl rfl rfl trivial ?_
          | refine x_extract rfl rfl rfl rfl trivial ?_
          | refine x_nilCheck rfl rfl rfl trivial ?_
          | refine x_fieldAddr rfl rfl rfl rfl trivial ?_
          | refine x_skip trivial rfl rfl rfl ?_
          | refine x_indexAddr1 rfl rfl rfl (by assumption) (by omega) (by omega) rfl trivial ?_
          | refine x_indexAddr rfl rfl rfl (by assumption) (by omega) (by omega) rfl trivial ?_
          | refine x_nil ?_
          | refine cw_seq ?_
          | refine nw_seq ?_
          | refine nw_block ?_
          | refine cw_block ?_
          | refine cw_skip ?_
          | refine cw_region ?_
          | refine cw_exit rfl ?_
          | refine cw_true rfl ?_
          | refine cw_false rfl ?_)
        refine x_true 160 rfl (by simp [ham]) ?_
        repeat (first
          | refine x_move rfl rfl rfl trivial ?_
          | refine x_assign rfl rfl rfl trivial ?_
          | refine x_add rfl rfl rfl (wrap_i64 (by omega) (by omega)) rfl trivial ?_
          | refine x_sub_ rfl rfl rfl (wrap_i64 (by omega) (by omega)) rfl trivial ?_
          | refine x_sub_ rfl rfl rfl (wrap_u32 (by omega) (by omega)) rfl trivial ?_
          | refine x_add rfl rfl rfl (wrap_u32 (by omega) (by omega)) rfl trivial ?_
          | refine x_peqn rfl rfl rfl rfl trivial ?_
          | refine x_pnen rfl rfl rfl rfl trivial ?_
          | refine x_mul rfl rfl rfl (wrap_i64 (by omega) (by omega)) rfl trivial ?_
          | refine x_ibin rfl rfl rfl rfl rfl trivial ?_
          | refine x_neg_ rfl rfl (wrap_i64 (by omega) (by omega)) rfl trivial ?_
          | refine x_len rfl rfl (by assumption) rfl trivial ?_
          | refine x_pick_t rfl rfl rfl rfl trivial ?_
          | refine x_pick_f rfl rfl rfl rfl trivial ?_
          | refine x_not rfl rfl rfl trivial ?_
          | refine x_beq rfl rfl rfl rfl trivial ?_
          | refine x_bne rfl rfl rfl rfl trivial ?_
          | refine x_extract rfl rfl rfl rfl trivial ?_
          | refine x_nilCheck rfl rfl rfl trivial ?_
          | refine x_fieldAddr rfl rfl rfl rfl trivial ?_
          | refine x_skip trivial rfl rfl rfl ?_
          | refine x_indexAddr1 rfl rfl rfl (by assumption) (by omega) (by omega) rfl trivial ?_
          | refine x_indexAddr rfl rfl rfl (by assumption) (by omega) (by omega) rfl trivial ?_
          | refine x_nil ?_
          | refine cw_seq ?_
          | refine nw_seq ?_
          | refine nw_block ?_
          | refine cw_block ?_
          | refine cw_skip ?_
          | refine cw_region ?_
          | refine cw_exit rfl ?_
          | refine cw_true rfl ?_
          | refine cw_false rfl ?_)
        refine x_call rfl rfl rfl trivial (arena_Give0 1 H3) ?_
        rintro _ _ ⟨rfl, rfl⟩
        refine ⟨trivial, ?_⟩
        repeat (first
          | refine x_move rfl rfl rfl trivial ?_
          | refine x_assign rfl rfl rfl trivial ?_
          | refine x_add rfl rfl rfl (wrap_i64 (by omega) (by omega)) rfl trivial ?_
          | refine x_sub_ rfl rfl rfl (wrap_i64 (by omega) (by omega)) rfl trivial ?_
          | refine x_sub_ rfl rfl rfl (wrap_u32 (by omega) (by omega)) rfl trivial ?_
          | refine x_add rfl rfl rfl (wrap_u32 (by omega) (by omega)) rfl trivial ?_
          | refine x_peqn rfl rfl rfl rfl trivial ?_
          | refine x_pnen rfl rfl rfl rfl trivial ?_
          | refine x_mul rfl rfl rfl (wrap_i64 (by omega) (by omega)) rfl trivial ?_
          | refine x_ibin rfl rfl rfl rfl rfl trivial ?_
          | refine x_neg_ rfl rfl (wrap_i64 (by omega) (by omega)) rfl trivial ?_
          | refine x_len rfl rfl (by assumption) rfl trivial ?_
          | refine x_pick_t rfl rfl rfl rfl trivial ?_
          | refine x_pick_f rfl rfl rfl rfl trivial ?_
          | refine x_not rfl rfl rfl trivial ?_
          | refine x_beq rfl rfl rfl rfl trivial ?_
          | refine x_bne rfl rfl rfl rfl trivial ?_
          | refine x_extract rfl rfl rfl rfl trivial ?_
          | refine x_nilCheck rfl rfl rfl trivial ?_
          | refine x_fieldAddr rfl rfl rfl rfl trivial ?_
          | refine x_skip trivial rfl rfl rfl ?_
          | refine x_indexAddr1 rfl rfl rfl (by assumption) (by omega) (by omega) rfl trivial ?_
          | refine x_indexAddr rfl rfl rfl (by assumption) (by omega) (by omega) rfl trivial ?_
          | refine x_nil ?_
          | refine cw_seq ?_
          | refine nw_seq ?_
          | refine nw_block ?_
          | refine cw_block ?_
          | refine cw_skip ?_
          | refine cw_region ?_
          | refine cw_exit rfl ?_
          | refine cw_true rfl ?_
          | refine cw_false rfl ?_)
        refine x_call rfl rfl rfl trivial (arena_Live0 H3) ?_
        rintro _ _ ⟨rfl, rfl⟩
        refine ⟨trivial, ?_⟩
        repeat (first
          | refine x_move rfl rfl rfl trivial ?_
          | refine x_assign rfl rfl rfl trivial ?_
          | refine x_add rfl rfl rfl (wrap_i64 (by omega) (by omega)) rfl trivial ?_
          | refine x_sub_ rfl rfl rfl (wrap_i64 (by omega) (by omega)) rfl trivial ?_
          | refine x_sub_ rfl rfl rfl (wrap_u32 (by omega) (by omega)) rfl trivial ?_
          | refine x_add rfl rfl rfl (wrap_u32 (by omega) (by omega)) rfl trivial ?_
          | refine x_peqn rfl rfl rfl rfl trivial ?_
          | refine x_pnen rfl rfl rfl rfl trivial ?_
          | refine x_mul rfl rfl rfl (wrap_i64 (by omega) (by omega)) rfl trivial ?_
          | refine x_ibin rfl rfl rfl rfl rfl trivial ?_
          | refine x_neg_ rfl rfl (wrap_i64 (by omega) (by omega)) rfl trivial ?_
          | refine x_len rfl rfl (by assumption) rfl trivial ?_
          | refine x_pick_t rfl rfl rfl rfl trivial ?_
          | refine x_pick_f rfl rfl rfl rfl trivial ?_
          | refine x_not rfl rfl rfl trivial ?_
          | refine x_beq rfl rfl rfl rfl trivial ?_
          | refine x_bne rfl rfl rfl rfl trivial ?_
          | refine x_extract rfl rfl rfl rfl trivial ?_
          | refine x_nilCheck rfl rfl rfl trivial ?_
          | refine x_fieldAddr rfl rfl rfl rfl trivial ?_
          | refine x_skip trivial rfl rfl rfl ?_
          | refine x_indexAddr1 rfl rfl rfl (by assumption) (by omega) (by omega) rfl trivial ?_
          | refine x_indexAddr rfl rfl rfl (by assumption) (by omega) (by omega) rfl trivial ?_
          | refine x_nil ?_
          | refine cw_seq ?_
          | refine nw_seq ?_
          | refine nw_block ?_
          | refine cw_block ?_
          | refine cw_skip ?_
          | refine cw_region ?_
          | refine cw_exit rfl ?_
          | refine cw_true rfl ?_
          | refine cw_false rfl ?_)
        refine x_call rfl rfl rfl trivial (arena_Handles0 H3) ?_
        rintro _ _ ⟨rfl, rfl⟩
        refine ⟨trivial, ?_⟩
        repeat (first
          | refine x_move rfl rfl rfl trivial ?_
          | refine x_assign rfl rfl rfl trivial ?_
          | refine x_add rfl rfl rfl (wrap_i64 (by omega) (by omega)) rfl trivial ?_
          | refine x_sub_ rfl rfl rfl (wrap_i64 (by omega) (by omega)) rfl trivial ?_
          | refine x_sub_ rfl rfl rfl (wrap_u32 (by omega) (by omega)) rfl trivial ?_
          | refine x_add rfl rfl rfl (wrap_u32 (by omega) (by omega)) rfl trivial ?_
          | refine x_peqn rfl rfl rfl rfl trivial ?_
          | refine x_pnen rfl rfl rfl rfl trivial ?_
          | refine x_mul rfl rfl rfl (wrap_i64 (by omega) (by omega)) rfl trivial ?_
          | refine x_ibin rfl rfl rfl rfl rfl trivial ?_
          | refine x_neg_ rfl rfl (wrap_i64 (by omega) (by omega)) rfl trivial ?_
          | refine x_len rfl rfl (by assumption) rfl trivial ?_
          | refine x_pick_t rfl rfl rfl rfl trivial ?_
          | refine x_pick_f rfl rfl rfl rfl trivial ?_
          | refine x_not rfl rfl rfl trivial ?_
          | refine x_beq rfl rfl rfl rfl trivial ?_
          | refine x_bne rfl rfl rfl rfl trivial ?_
          | refine x_extract rfl rfl rfl rfl trivial ?_
          | refine x_nilCheck rfl rfl rfl trivial ?_
          | refine x_fieldAddr rfl rfl rfl rfl trivial ?_
          | refine x_skip trivial rfl rfl rfl ?_
          | refine x_indexAddr1 rfl rfl rfl (by assumption) (by omega) (by omega) rfl trivial ?_
          | refine x_indexAddr rfl rfl rfl (by assumption) (by omega) (by omega) rfl trivial ?_
          | refine x_nil ?_
          | refine cw_seq ?_
          | refine nw_seq ?_
          | refine nw_block ?_
          | refine cw_block ?_
          | refine cw_skip ?_
          | refine cw_region ?_
          | refine cw_exit rfl ?_
          | refine cw_true rfl ?_
          | refine cw_false rfl ?_)
        refine x_call rfl rfl rfl trivial (awake5 _) ?_
        rintro _ Hz ⟨rfl, hkz⟩
        refine ⟨trivial, ?_⟩
        repeat (first
          | refine x_move rfl rfl rfl trivial ?_
          | refine x_assign rfl rfl rfl trivial ?_
          | refine x_add rfl rfl rfl (wrap_i64 (by omega) (by omega)) rfl trivial ?_
          | refine x_sub_ rfl rfl rfl (wrap_i64 (by omega) (by omega)) rfl trivial ?_
          | refine x_sub_ rfl rfl rfl (wrap_u32 (by omega) (by omega)) rfl trivial ?_
          | refine x_add rfl rfl rfl (wrap_u32 (by omega) (by omega)) rfl trivial ?_
          | refine x_peqn rfl rfl rfl rfl trivial ?_
          | refine x_pnen rfl rfl rfl rfl trivial ?_
          | refine x_mul rfl rfl rfl (wrap_i64 (by omega) (by omega)) rfl trivial ?_
          | refine x_ibin rfl rfl rfl rfl rfl trivial ?_
          | refine x_neg_ rfl rfl (wrap_i64 (by omega) (by omega)) rfl trivial ?_
          | refine x_len rfl rfl (by assumption) rfl trivial ?_
          | refine x_pick_t rfl rfl rfl rfl trivial ?_
          | refine x_pick_f rfl rfl rfl rfl trivial ?_
          | refine x_not rfl rfl rfl trivial ?_
          | refine x_beq rfl rfl rfl rfl trivial ?_
          | refine x_bne rfl rfl rfl rfl trivial ?_
          | refine x_extract rfl rfl rfl rfl trivial ?_
          | refine x_nilCheck rfl rfl rfl trivial ?_
          | refine x_fieldAddr rfl rfl rfl rfl trivial ?_
          | refine x_skip trivial rfl rfl rfl ?_
          | refine x_indexAddr1 rfl rfl rfl (by assumption) (by omega) (by omega) rfl trivial ?_
          | refine x_indexAddr rfl rfl rfl (by assumption) (by omega) (by omega) rfl trivial ?_
          | refine x_nil ?_
          | refine cw_seq ?_
          | refine nw_seq ?_
          | refine nw_block ?_
          | refine cw_block ?_
          | refine cw_skip ?_
          | refine cw_region ?_
          | refine cw_exit rfl ?_
          | refine cw_true rfl ?_
          | refine cw_false rfl ?_)
        exact cw_ret1 rfl rfl ⟨rfl, (hA3.keep0).non_trans hkz⟩
end Go.Proofs.Ytioaicleodjmpaa.X
