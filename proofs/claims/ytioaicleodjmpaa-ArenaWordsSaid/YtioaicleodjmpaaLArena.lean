/- The statements on arena: what is shared, and the walk of ArenaBack. -/
import Derived.Test.YtioaicleodjmpaaArena2
import Derived.Test.YtioaicleodjmpaaLow
namespace Go.Proofs.Ytioaicleodjmpaa.X
open Go Go.Proofs
set_option linter.unusedVariables false
set_option maxRecDepth 10000
set_option maxHeartbeats 4000000

/-- an arena that a statement works on, made behind H0; Z: blocks that are the statement's own -/
def As (Z : Nat → Prop) (H0 H : Heap) (b : Nat) (a : Ar) : Prop := ∃ K, Sa K H b a ∧ K.From H0.size ∧ Keep Non H0 H ∧ ∀ x, Z x → K x = 0 ∧ H0.size ≤ x ∧ x < H.size
theorem As.keep0 {Z : Nat → Prop} {H0 H : Heap} {b : Nat} {a : Ar} (h : As Z H0 H b a) : Keep Non H0 H := let ⟨_, _, _, h3, _⟩ := h; h3
theorem As.step {Z Z' : Nat → Prop} {S : Nat → Prop} {H0 H H' : Heap} {b : Nat} {a : Ar} (h : As Z H0 H b a) (k : Keep S H H') (hS : ∀ x, S x → Z x) (hZ : ∀ x, Z' x → (Z x ∨ H.size ≤ x) ∧ x < H'.size) : As Z' H0 H' b a := by
  obtain ⟨K, h1, h2, h3, h4⟩ := h
  refine ⟨K, h1.keep k (fun x hx e => hx (h4 x (hS x e)).1), h2, h3.old k (fun x hx e => by have := (h4 x (hS x e)).2.1; omega), fun x hx => ?_⟩
  obtain ⟨e1, e2⟩ := hZ x hx
  rcases e1 with e1 | e1
  · obtain ⟨g1, g2, g3⟩ := h4 x e1
    exact ⟨g1, g2, e2⟩
  · exact ⟨h1.kin.off e1, by have := h3.size; omega, e2⟩
theorem As.stepN {Z : Nat → Prop} {H0 H H' : Heap} {b : Nat} {a : Ar} (h : As Z H0 H b a) (k : Keep Non H H') : As Z H0 H' b a :=
  h.step k (fun _ h => h.elim) (fun x hx => ⟨.inl hx, by obtain ⟨K, _, _, _, h4⟩ := h; have := (h4 x hx).2.2; have := k.size; omega⟩)
theorem As.turn {Z : Nat → Prop} {H0 H H' : Heap} {b : Nat} {a' : Ar} {K K' : Role} (h2 : K.From H0.size) (h3 : Keep Non H0 H) (h4 : ∀ x, Z x → K x = 0 ∧ H0.size ≤ x ∧ x < H.size) (hk : Keep (MutA K) H H') (hE : K.Ext K' H H') (hS : Sa K' H' b a') :
    As Z H0 H' b a' ∧ Keep (fun x => ¬ Z x) H H' :=
  ⟨⟨K', hS, h2.ext hE h3.size, h2.keep h3 hk (fun _ h => h), fun x hx => ⟨by rw [hE.old x (h4 x hx).2.2]; exact (h4 x hx).1, (h4 x hx).2.1, by have := (h4 x hx).2.2; have := hk.size; omega⟩⟩,
    hk.mono fun x _ e hz => e (h4 x hz).1⟩
section
variable {Z : Nat → Prop} {H0 H : Heap} {b : Nat} {a : Ar}
theorem as_New (most : Int) (hm : 0 ≤ most ∧ most ≤ 1048576) (H : Heap) : Ret Try.prog 9 [.int .i64 most] H (fun v H' => ∃ b, v = ptr b 0 ∧ As Non H H' b ⟨most, [], []⟩) :=
  (arena_New most H).mono fun v H' h => by
    rcases h with ⟨h, _⟩ | ⟨_, hk, b, K, rfl, hS, hf⟩
    · exact absurd hm h
    · exact ⟨b, rfl, K, hS, hf, hk, fun _ h => h.elim⟩
theorem as_Take {vl : Value} {ws : List Int} (h : As Z H0 H b a) (hw : a.Wf) (hL : Ws H vl ws) (hll : ws.length ≤ 1000000) (hl : a.cs.length ≤ 1000000) (hbl : a.back.length ≤ 1000000) :
    Ret Try.prog 10 [ptr b 0, vl] H (fun v H' => v = .tuple #[.int .u32 (takeA a ws).1, .int .i64 (takeA a ws).2.1] ∧ As Z H0 H' b (takeA a ws).2.2 ∧ Keep (fun x => ¬ Z x) H H') := by
  obtain ⟨K, h1, h2, h3, h4⟩ := h
  exact (arena_Take h1 hw hL hll hl hbl).mono fun v H' ⟨e, hk, K', hE, hS⟩ => ⟨e, As.turn h2 h3 h4 hk hE hS⟩
theorem as_Give {h : Nat} (hA : As Z H0 H b a) (hh : h < 4294967296) (hl : a.cs.length ≤ 1000000) (hbl : a.back.length ≤ 1000000) :
    Ret Try.prog 11 [ptr b 0, .int .u32 (h : Nat)] H (fun v H' => v = .int .i64 (giveA a h).1 ∧ As Z H0 H' b (giveA a h).2 ∧ Keep (fun x => ¬ Z x) H H') := by
  obtain ⟨K, h1, h2, h3, h4⟩ := hA
  exact (arena_Give h1 hh hl hbl).mono fun v H' ⟨e, hk, K', hE, hS⟩ => ⟨e, As.turn h2 h3 h4 hk hE hS⟩
theorem as_Set {h : Nat} {i x : Int} (hA : As Z H0 H b a) (hh : h < 4294967296) (hl : a.cs.length ≤ 1000000) :
    Ret Try.prog 15 [ptr b 0, .int .u32 (h : Nat), .int .i64 i, .int .u64 x] H (fun v H' => v = .int .i64 (errA a h i) ∧ As Z H0 H' b (setA a h i x) ∧ Keep (fun x => ¬ Z x) H H') := by
  obtain ⟨K, h1, h2, h3, h4⟩ := hA
  exact (arena_Set h1 hh hl).mono fun v H' ⟨e, hk, hS⟩ => ⟨e, As.turn h2 h3 h4 hk ⟨fun _ _ => rfl, hk.size⟩ hS⟩
theorem as_Get {h : Nat} {i : Int} (hA : As Z H0 H b a) (hh : h < 4294967296) (hl : a.cs.length ≤ 1000000) :
    Ret Try.prog 16 [ptr b 0, .int .u32 (h : Nat), .int .i64 i] H (fun v H' => H = H' ∧ v = .tuple #[.int .u64 (getA a h i), .int .i64 (errA a h i)]) := by
  obtain ⟨K, h1, h2, h3, h4⟩ := hA
  exact arena_Get h1 hh hl
theorem as_Size {h : Nat} (hA : As Z H0 H b a) (hh : h < 4294967296) (hl : a.cs.length ≤ 1000000) :
    Ret Try.prog 14 [ptr b 0, .int .u32 (h : Nat)] H (fun v H' => H = H' ∧ v = .int .i64 (sizeA a h : Nat)) := by
  obtain ⟨K, h1, h2, h3, h4⟩ := hA
  exact arena_Size h1 hh hl
theorem as_Live (hA : As Z H0 H b a) (hl : a.cs.length ≤ 1000000) (hbl : a.back.length ≤ 1000000) : Ret Try.prog 12 [ptr b 0] H (fun v H' => H = H' ∧ v = .int .i64 (liveA a)) := by
  obtain ⟨K, h1, h2, h3, h4⟩ := hA
  exact arena_Live h1 hl hbl
theorem as_Free (hA : As Z H0 H b a) (hw : a.Wf) (hl : a.cs.length ≤ 1000000) (hbl : a.back.length ≤ 1000000) : Ret Try.prog 17 [ptr b 0] H (fun v H' => H = H' ∧ v = .int .i64 (a.most - liveA a)) := by
  obtain ⟨K, h1, h2, h3, h4⟩ := hA
  exact arena_Free h1 hw hl hbl
theorem as_Handles (hA : As Z H0 H b a) (hl : a.cs.length ≤ 1000000) : Ret Try.prog 18 [ptr b 0] H (fun v H' => Keep Non H H' ∧ Rw encU 1 Eq H' v (handlesA a) ∧ Fresh H v) := by
  obtain ⟨K, h1, h2, h3, h4⟩ := hA
  exact arena_Handles h1 hl
end
/-- the statement's own list of handles -/
abbrev Zn (v : Value) : Nat → Prop := fun x => x = sb v ∧ 0 < sc v
theorem own_keep {H H' : Heap} {v : Value} {l : List Nat} (h : Rw encU 1 Eq H v l) (k : Keep (fun x => ¬ Zn v x) H H') : Rw encU 1 Eq H' v l := h.keep k (fun hc e => e ⟨rfl, hc⟩)
theorem Ws.nil (H : Heap) : Ws H (.slice none 0 0) [] := ⟨isSl_nil, Cels.nil _ _ _⟩
theorem app_own {H0 H H1 H' : Heap} {b : Nat} {a : Ar} {v v' : Value} {l : List Nat} {q : List Nat} {h : Nat} (hA : As (Zn v) H0 H b a) (hk : Keep Non H H1) (hq : Al Eq q l) (ap : App 1 H1 H' v v' l.length (rws encU q) (rws encU [h]) 1) : As (Zn v') H0 H' b a ∧ Rw encU 1 Eq H' v' (l ++ [h]) := by
  have hR := Rw.app (R := Eq) (R' := Eq) hq rfl (Al.one rfl) (fun _ _ h => h) ap
  have h0 := hR.sl.cap.1
  rw [List.length_append] at h0
  simp only [List.length_cons, List.length_nil] at h0
  refine ⟨(hA.stepN hk).step ap.keep (fun x e => ⟨e.1, by omega⟩) (fun x e => ⟨?_, by rw [e.1]; exact hR.lt e.2⟩), hR⟩
  rcases ap.place with ⟨e1, e2, e3, e4, _⟩ | ⟨e1, _⟩
  · exact .inl ⟨by rw [e.1, e1], by omega⟩
  · exact .inr (by rw [e.1, e1]; exact Nat.le_refl _)

theorem awake5 (H : Heap) : Ret Try.prog 13 [] H (Yes H) := by
  refine ret_of Try.func13 rfl rfl rfl rfl ?_
  intro w0
  repeat (first
    | refine x_move rfl rfl rfl trivial ?_
    | refine x_assign rfl rfl rfl trivial ?_
    | refine x_add rfl rfl rfl (wrap_i64 (by omega) (by omega)) rfl trivial ?_
    | refine x_sub_ rfl rfl rfl (wrap_i64 (by omega) (by omega)) rfl trivial ?_
    | refine x_sub_ rfl rfl rfl (wrap_u32 (by omega) (by omega)) rfl trivial ?_
    | refine x_add rfl rfl rfl (wrap_u32 (by omega) (by omega)) rfl trivial ?_
    | refine x_peqn rfl rfl rfl rfl trivial ?_
    | refine x_pnen rfl rfl rfl rfl trivial ?_
    | refine x_mul rfl rfl rfl (wrap_i64 (by omega) (by omega)) rfl trivial ?_
    | refine x_ibin rfl rfl rfl rfl rfl trivial ?_
    | refine x_neg_ rfl rfl (wrap_i64 (by omega) (by omega)) rfl trivial ?_
    | refine x_len rfl rfl (by assumption) rfl trivial ?_
    | refine x_pick_t rfl rfl rfl rfl trivial ?_
    | refine x_pick_f rfl rfl rfl rfl trivial ?_
    | refine x_not rfl rfl rfl trivial ?_
    | refine x_beq rfl rfl rfl rfl trivial ?_
    | refine x_bne rfl rfl rfl rfl trivial ?_
    | refine x_extract rfl rfl rfl rfl trivial ?_
    | refine x_nilCheck rfl rfl rfl trivial ?_
    | refine x_fieldAddr rfl rfl rfl rfl trivial ?_
    | refine x_skip trivial rfl rfl rfl ?_
    | refine x_indexAddr1 rfl rfl rfl (by assumption) (by omega) (by omega) rfl trivial ?_
    | refine x_indexAddr rfl rfl rfl (by assumption) (by omega) (by omega) rfl trivial ?_
    | refine x_nil ?_
    | refine cw_seq ?_
    | refine nw_seq ?_
    | refine nw_block ?_
    | refine cw_block ?_
    | refine cw_skip ?_
    | refine cw_region ?_
    | refine cw_exit rfl ?_
    | refine cw_true rfl ?_
    | refine cw_false rfl ?_)
  refine x_call rfl rfl rfl trivial (as_New 2 (by omega) H) ?_
  rintro _ H1 ⟨b, rfl, hA1⟩
  refine ⟨trivial, ?_⟩
  have hw1 : Ar.Wf ⟨2, [], []⟩ := ⟨by simp, by simp [liveA], by simp, by simp, by simp [takenA]⟩
  repeat (first
    | refine x_move rfl rfl rfl trivial ?_
    | refine x_assign rfl rfl rfl trivial ?_
    | refine x_add rfl rfl rfl (wrap_i64 (by omega) (by omega)) rfl trivial ?_
    | refine x_sub_ rfl rfl rfl (wrap_i64 (by omega) (by omega)) rfl trivial ?_
    | refine x_sub_ rfl rfl rfl (wrap_u32 (by omega) (by omega)) rfl trivial ?_
    | refine x_add rfl rfl rfl (wrap_u32 (by omega) (by omega)) rfl trivial ?_
    | refine x_peqn rfl rfl rfl rfl trivial ?_
    | refine x_pnen rfl rfl rfl rfl trivial ?_
    | refine x_mul rfl rfl rfl (wrap_i64 (by omega) (by omega)) rfl trivial ?_
    | refine x_ibin rfl rfl rfl rfl rfl trivial ?_
    | refine x_neg_ rfl rfl (wrap_i64 (by omega) (by omega)) rfl trivial ?_
    | refine x_len rfl rfl (by assumption) rfl trivial ?_
    | refine x_pick_t rfl rfl rfl rfl trivial ?_
    | refine x_pick_f rfl rfl rfl rfl trivial ?_
    | refine x_not rfl rfl rfl trivial ?_
    | refine x_beq rfl rfl rfl rfl trivial ?_
    | refine x_bne rfl rfl rfl rfl trivial ?_
    | refine x_extract rfl rfl rfl rfl trivial ?_
    | refine x_nilCheck rfl rfl rfl trivial ?_
    | refine x_fieldAddr rfl rfl rfl rfl trivial ?_
    | refine x_skip trivial rfl rfl rfl ?_
    | refine x_indexAddr1 rfl rfl rfl (by assumption) (by omega) (by omega) rfl trivial ?_
    | refine x_indexAddr rfl rfl rfl (by assumption) (by omega) (by omega) rfl trivial ?_
    | refine x_nil ?_
    | refine cw_seq ?_
    | refine nw_seq ?_
    | refine nw_block ?_
    | refine cw_block ?_
    | refine cw_skip ?_
    | refine cw_region ?_
    | refine cw_exit rfl ?_
    | refine cw_true rfl ?_
    | refine cw_false rfl ?_)
  refine x_buildSlice (vs := u64s [7, 8]) rfl rfl rfl rfl (by omega) (u64s_oneC _) rfl trivial ?_
  intro H2 hn2
  refine ⟨trivial, ?_⟩
  have e2 : takeA ⟨2, [], []⟩ [7, 8] = (1, 0, ⟨2, [([7, 8], true)], []⟩) := rfl
  have hw2 := takeA_wf hw1 [7, 8]
  repeat (first
    | refine x_move rfl rfl rfl trivial ?_
    | refine x_assign rfl rfl rfl trivial ?_
    | refine x_add rfl rfl rfl (wrap_i64 (by omega) (by omega)) rfl trivial ?_
    | refine x_sub_ rfl rfl rfl (wrap_i64 (by omega) (by omega)) rfl trivial ?_
    | refine x_sub_ rfl rfl rfl (wrap_u32 (by omega) (by omega)) rfl trivial ?_
    | refine x_add rfl rfl rfl (wrap_u32 (by omega) (by omega)) rfl trivial ?_
    | refine x_peqn rfl rfl rfl rfl trivial ?_
    | refine x_pnen rfl rfl rfl rfl trivial ?_
    | refine x_mul rfl rfl rfl (wrap_i64 (by omega) (by omega)) rfl trivial ?_
    | refine x_ibin rfl rfl rfl rfl rfl trivial ?_
    | refine x_neg_ rfl rfl (wrap_i64 (by omega) (by omega)) rfl trivial ?_
    | refine x_len rfl rfl (by assumption) rfl trivial ?_
    | refine x_pick_t rfl rfl rfl rfl trivial ?_
    | refine x_pick_f rfl rfl rfl rfl trivial ?_
    | refine x_not rfl rfl rfl trivial ?_
    | refine x_beq rfl rfl rfl rfl trivial ?_
    | refine x_bne rfl rfl rfl rfl trivial ?_
    | refine x_extract rfl rfl rfl rfl trivial ?_
    | refine x_nilCheck rfl rfl rfl trivial ?_
    | refine x_fieldAddr rfl rfl rfl rfl trivial ?_
    | refine x_skip trivial rfl rfl rfl ?_
    | refine x_indexAddr1 rfl rfl rfl (by assumption) (by omega) (by omega) rfl trivial ?_
    | refine x_indexAddr rfl rfl rfl (by assumption) (by omega) (by omega) rfl trivial ?_
    | refine x_nil ?_
    | refine cw_seq ?_
    | refine nw_seq ?_
    | refine nw_block ?_
    | refine cw_block ?_
    | refine cw_skip ?_
    | refine cw_region ?_
    | refine cw_exit rfl ?_
    | refine cw_true rfl ?_
    | refine cw_false rfl ?_)
  refine x_call rfl rfl rfl trivial (as_Take (ws := [7, 8]) (hA1.stepN hn2.keep) hw1 ⟨isSl_some (Nat.le_refl _) (by omega), hn2.blk.cels 0 2 (by simp [u64s])⟩ (by simp) (by simp) (by simp)) ?_
  rintro _ H3 ⟨rfl, hA3, _⟩
  refine ⟨trivial, ?_⟩
  rw [e2] at hA3 hw2 ⊢
  simp only at hA3 hw2
  have e3 : takeA ⟨2, [([7, 8], true)], []⟩ [] = (2, 0, ⟨2, [([7, 8], true), ([], true)], []⟩) := rfl
  have hw3 := takeA_wf hw2 []
  repeat (first
    | refine x_move rfl rfl rfl trivial ?_
    | refine x_assign rfl rfl rfl trivial ?_
    | refine x_add rfl rfl rfl (wrap_i64 (by omega) (by omega)) rfl trivial ?_
    | refine x_sub_ rfl rfl rfl (wrap_i64 (by omega) (by omega)) rfl trivial ?_
    | refine x_sub_ rfl rfl rfl (wrap_u32 (by omega) (by omega)) rfl trivial ?_
    | refine x_add rfl rfl rfl (wrap_u32 (by omega) (by omega)) rfl trivial ?_
    | refine x_peqn rfl rfl rfl rfl trivial ?_
    | refine x_pnen rfl rfl rfl rfl trivial ?_
    | refine x_mul rfl rfl rfl (wrap_i64 (by omega) (by omega)) rfl trivial ?_
    | refine x_ibin rfl rfl rfl rfl rfl trivial ?_
    | refine x_neg_ rfl rfl (wrap_i64 (by omega) (by omega)) rfl trivial ?_
    | refine x_len rfl rfl (by assumption) rfl trivial ?_
    | refine x_pick_t rfl rfl rfl rfl trivial ?_
    | refine x_pick_f rfl rfl rfl rfl trivial ?_
    | refine x_not rfl rfl rfl trivial ?_
    | refine x_beq rfl rfl rfl rfl trivial ?_
    | refine x_bne rfl rfl rfl rfl trivial ?_
    | refine x_extract rfl rfl rfl rfl trivial ?_
    | refine x_nilCheck rfl rfl rfl trivial ?_
    | refine x_fieldAddr rfl rfl rfl rfl trivial ?_
    | refine x_skip trivial rfl rfl rfl ?_
    | refine x_indexAddr1 rfl rfl rfl (by assumption) (by omega) (by omega) rfl trivial ?_
    | refine x_indexAddr rfl rfl rfl (by assumption) (by omega) (by omega) rfl trivial ?_
    | refine x_nil ?_
    | refine cw_seq ?_
    | refine nw_seq ?_
    | refine nw_block ?_
    | refine cw_block ?_
    | refine cw_skip ?_
    | refine cw_region ?_
    | refine cw_exit rfl ?_
    | refine cw_true rfl ?_
    | refine cw_false rfl ?_)
  refine x_call rfl rfl rfl trivial (as_Take hA3 hw2 (Ws.nil _) (by simp) (by simp) (by simp)) ?_
  rintro _ H4 ⟨rfl, hA4, _⟩
  refine ⟨trivial, ?_⟩
  rw [e3] at hA4 hw3 ⊢
  simp only at hA4 hw3
  have e4 : takeA ⟨2, [([7, 8], true), ([], true)], []⟩ [] = (0, 4, ⟨2, [([7, 8], true), ([], true)], []⟩) := rfl
  repeat (first
    | refine x_move rfl rfl rfl trivial ?_
    | refine x_assign rfl rfl rfl trivial ?_
    | refine x_add rfl rfl rfl (wrap_i64 (by omega) (by omega)) rfl trivial ?_
    | refine x_sub_ rfl rfl rfl (wrap_i64 (by omega) (by omega)) rfl trivial ?_
    | refine x_sub_ rfl rfl rfl (wrap_u32 (by omega) (by omega)) rfl trivial ?_
    | refine x_add rfl rfl rfl (wrap_u32 (by omega) (by omega)) rfl trivial ?_
    | refine x_peqn rfl rfl rfl rfl trivial ?_
    | refine x_pnen rfl rfl rfl rfl trivial ?_
    | refine x_mul rfl rfl rfl (wrap_i64 (by omega) (by omega)) rfl trivial ?_
    | refine x_ibin rfl rfl rfl rfl rfl trivial ?_
    | refine x_neg_ rfl rfl (wrap_i64 (by omega) (by omega)) rfl trivial ?_
    | refine x_len rfl rfl (by assumption) rfl trivial ?_
    | refine x_pick_t rfl rfl rfl rfl trivial ?_
    | refine x_pick_f rfl rfl rfl rfl trivial ?_
    | refine x_not rfl rfl rfl trivial ?_
    | refine x_beq rfl rfl rfl rfl trivial ?_
    | refine x_bne rfl rfl rfl rfl trivial ?_
    | refine x_extract rfl rfl rfl rfl trivial ?_
    | refine x_nilCheck rfl rfl rfl trivial ?_
    | refine x_fieldAddr rfl rfl rfl rfl trivial ?_
    | refine x_skip trivial rfl rfl rfl ?_
    | refine x_indexAddr1 rfl rfl rfl (by assumption) (by omega) (by omega) rfl trivial ?_
    | refine x_indexAddr rfl rfl rfl (by assumption) (by omega) (by omega) rfl trivial ?_
    | refine x_nil ?_
    | refine cw_seq ?_
    | refine nw_seq ?_
    | refine nw_block ?_
    | refine cw_block ?_
    | refine cw_skip ?_
    | refine cw_region ?_
    | refine cw_exit rfl ?_
    | refine cw_true rfl ?_
    | refine cw_false rfl ?_)
  refine x_call rfl rfl rfl trivial (as_Take hA4 hw3 (Ws.nil _) (by simp) (by simp) (by simp)) ?_
  rintro _ H5 ⟨rfl, hA5, _⟩
  refine ⟨trivial, ?_⟩
  rw [e4] at hA5 ⊢
  simp only at hA5
  have e5 : giveA ⟨2, [([7, 8], true), ([], true)], []⟩ 1 = (0, ⟨2, [([], false), ([], true)], [1]⟩) := rfl
  have hw5 := giveA_wf hw3 1
  repeat (first
    | refine x_move rfl rfl rfl trivial ?_
    | refine x_assign rfl rfl rfl trivial ?_
    | refine x_add rfl rfl rfl (wrap_i64 (by omega) (by omega)) rfl trivial ?_
    | refine x_sub_ rfl rfl rfl (wrap_i64 (by omega) (by omega)) rfl trivial ?_
    | refine x_sub_ rfl rfl rfl (wrap_u32 (by omega) (by omega)) rfl trivial ?_
    | refine x_add rfl rfl rfl (wrap_u32 (by omega) (by omega)) rfl trivial ?_
    | refine x_peqn rfl rfl rfl rfl trivial ?_
    | refine x_pnen rfl rfl rfl rfl trivial ?_
    | refine x_mul rfl rfl rfl (wrap_i64 (by omega) (by omega)) rfl trivial ?_
    | refine x_ibin rfl rfl rfl rfl rfl trivial ?_
    | refine x_neg_ rfl rfl (wrap_i64 (by omega) (by omega)) rfl trivial ?_
    | refine x_len rfl rfl (by assumption) rfl trivial ?_
    | refine x_pick_t rfl rfl rfl rfl trivial ?_
    | refine x_pick_f rfl rfl rfl rfl trivial ?_
    | refine x_not rfl rfl rfl trivial ?_
    | refine x_beq rfl rfl rfl rfl trivial ?_
    | refine x_bne rfl rfl rfl rfl trivial ?_
    | refine x_extract rfl rfl rfl rfl trivial ?_
    | refine x_nilCheck rfl rfl rfl trivial ?_
    | refine x_fieldAddr rfl rfl rfl rfl trivial ?_
    | refine x_skip trivial rfl rfl rfl ?_
    | refine x_indexAddr1 rfl rfl rfl (by assumption) (by omega) (by omega) rfl trivial ?_
    | refine x_indexAddr rfl rfl rfl (by assumption) (by omega) (by omega) rfl trivial ?_
    | refine x_nil ?_
    | refine cw_seq ?_
    | refine nw_seq ?_
    | refine nw_block ?_
    | refine cw_block ?_
    | refine cw_skip ?_
    | refine cw_region ?_
    | refine cw_exit rfl ?_
    | refine cw_true rfl ?_
    | refine cw_false rfl ?_)
  refine x_call rfl rfl rfl trivial (as_Give (h := 1) hA5 (by decide) (by simp) (by simp)) ?_
  rintro _ H6 ⟨rfl, hA6, _⟩
  refine ⟨trivial, ?_⟩
  rw [e5] at hA6 hw5 ⊢
  simp only at hA6 hw5
  repeat (first
    | refine x_move rfl rfl rfl trivial ?_
    | refine x_assign rfl rfl rfl trivial ?_
    | refine x_add rfl rfl rfl (wrap_i64 (by omega) (by omega)) rfl trivial ?_
    | refine x_sub_ rfl rfl rfl (wrap_i64 (by omega) (by omega)) rfl trivial ?_
    | refine x_sub_ rfl rfl rfl (wrap_u32 (by omega) (by omega)) rfl trivial ?_
    | refine x_add rfl rfl rfl (wrap_u32 (by omega) (by omega)) rfl trivial ?_
    | refine x_peqn rfl rfl rfl rfl trivial ?_
    | refine x_pnen rfl rfl rfl rfl trivial ?_
    | refine x_mul rfl rfl rfl (wrap_i64 (by omega) (by omega)) rfl trivial ?_
    | refine x_ibin rfl rfl rfl rfl rfl trivial ?_
    | refine x_neg_ rfl rfl (wrap_i64 (by omega) (by omega)) rfl trivial ?_
    | refine x_len rfl rfl (by assumption) rfl trivial ?_
    | refine x_pick_t rfl rfl rfl rfl trivial ?_
    | refine x_pick_f rfl rfl rfl rfl trivial ?_
    | refine x_not rfl rfl rfl trivial ?_
    | refine x_beq rfl rfl rfl rfl trivial ?_
    | refine x_bne rfl rfl rfl rfl trivial ?_
    | refine x_extract rfl rfl rfl rfl trivial ?_
    | refine x_nilCheck rfl rfl rfl trivial ?_
    | refine x_fieldAddr rfl rfl rfl rfl trivial ?_
    | refine x_skip trivial rfl rfl rfl ?_
    | refine x_indexAddr1 rfl rfl rfl (by assumption) (by omega) (by omega) rfl trivial ?_
    | refine x_indexAddr rfl rfl rfl (by assumption) (by omega) (by omega) rfl trivial ?_
    | refine x_nil ?_
    | refine cw_seq ?_
    | refine nw_seq ?_
    | refine nw_block ?_
    | refine cw_block ?_
    | refine cw_skip ?_
    | refine cw_region ?_
    | refine cw_exit rfl ?_
    | refine cw_true rfl ?_
    | refine cw_false rfl ?_)
  refine x_buildSlice (vs := u64s [9]) rfl rfl rfl rfl (by omega) (u64s_oneC _) rfl trivial ?_
  intro H7 hn7
  refine ⟨trivial, ?_⟩
  have e7 : takeA ⟨2, [([], false), ([], true)], [1]⟩ [9] = (1, 0, ⟨2, [([9], true), ([], true)], []⟩) := rfl
  have hw7 := takeA_wf hw5 [9]
  repeat (first
    | refine x_move rfl rfl rfl trivial ?_
    | refine x_assign rfl rfl rfl trivial ?_
    | refine x_add rfl rfl rfl (wrap_i64 (by omega) (by omega)) rfl trivial ?_
    | refine x_sub_ rfl rfl rfl (wrap_i64 (by omega) (by omega)) rfl trivial ?_
    | refine x_sub_ rfl rfl rfl (wrap_u32 (by omega) (by omega)) rfl trivial ?_
    | refine x_add rfl rfl rfl (wrap_u32 (by omega) (by omega)) rfl trivial ?_
    | refine x_peqn rfl rfl rfl rfl trivial ?_
    | refine x_pnen rfl rfl rfl rfl trivial ?_
    | refine x_mul rfl rfl rfl (wrap_i64 (by omega) (by omega)) rfl trivial ?_
    | refine x_ibin rfl rfl rfl rfl rfl trivial ?_
    | refine x_neg_ rfl rfl (wrap_i64 (by omega) (by omega)) rfl trivial ?_
    | refine x_len rfl rfl (by assumption) rfl trivial ?_
    | refine x_pick_t rfl rfl rfl rfl trivial ?_
    | refine x_pick_f rfl rfl rfl rfl trivial ?_
    | refine x_not rfl rfl rfl trivial ?_
    | refine x_beq rfl rfl rfl rfl trivial ?_
    | refine x_bne rfl rfl rfl rfl trivial ?_
    | refine x_extract rfl rfl rfl rfl trivial ?_
    | refine x_nilCheck rfl rfl rfl trivial ?_
    | refine x_fieldAddr rfl rfl rfl rfl trivial ?_
    | refine x_skip trivial rfl rfl rfl ?_
    | refine x_indexAddr1 rfl rfl rfl (by assumption) (by omega) (by omega) rfl trivial ?_
    | refine x_indexAddr rfl rfl rfl (by assumption) (by omega) (by omega) rfl trivial ?_
    | refine x_nil ?_
    | refine cw_seq ?_
    | refine nw_seq ?_
    | refine nw_block ?_
    | refine cw_block ?_
    | refine cw_skip ?_
    | refine cw_region ?_
    | refine cw_exit rfl ?_
    | refine cw_true rfl ?_
    | refine cw_false rfl ?_)
  refine x_call rfl rfl rfl trivial (as_Take (ws := [9]) (hA6.stepN hn7.keep) hw5 ⟨isSl_some (Nat.le_refl _) (by omega), hn7.blk.cels 0 1 (by simp [u64s])⟩ (by simp) (by simp) (by simp)) ?_
  rintro _ H8 ⟨rfl, hA8, _⟩
  refine ⟨trivial, ?_⟩
  rw [e7] at hA8 hw7 ⊢
  simp only at hA8 hw7
  repeat (first
    | refine x_move rfl rfl rfl trivial ?_
    | refine x_assign rfl rfl rfl trivial ?_
    | refine x_add rfl rfl rfl (wrap_i64 (by omega) (by omega)) rfl trivial ?_
    | refine x_sub_ rfl rfl rfl (wrap_i64 (by omega) (by omega)) rfl trivial ?_
    | refine x_sub_ rfl rfl rfl (wrap_u32 (by omega) (by omega)) rfl trivial ?_
    | refine x_add rfl rfl rfl (wrap_u32 (by omega) (by omega)) rfl trivial ?_
    | refine x_peqn rfl rfl rfl rfl trivial ?_
    | refine x_pnen rfl rfl rfl rfl trivial ?_
    | refine x_mul rfl rfl rfl (wrap_i64 (by omega) (by omega)) rfl trivial ?_
    | refine x_ibin rfl rfl rfl rfl rfl trivial ?_
    | refine x_neg_ rfl rfl (wrap_i64 (by omega) (by omega)) rfl trivial ?_
    | refine x_len rfl rfl (by assumption) rfl trivial ?_
    | refine x_pick_t rfl rfl rfl rfl trivial ?_
    | refine x_pick_f rfl rfl rfl rfl trivial ?_
    | refine x_not rfl rfl rfl trivial ?_
    | refine x_beq rfl rfl rfl rfl trivial ?_
    | refine x_bne rfl rfl rfl rfl trivial ?_
    | refine x_extract rfl rfl rfl rfl trivial ?_
    | refine x_nilCheck rfl rfl rfl trivial ?_
    | refine x_fieldAddr rfl rfl rfl rfl trivial ?_
    | refine x_skip trivial rfl rfl rfl ?_
    | refine x_indexAddr1 rfl rfl rfl (by assumption) (by omega) (by omega) rfl trivial ?_
    | refine x_indexAddr rfl rfl rfl (by assumption) (by omega) (by omega) rfl trivial ?_
    | refine x_nil ?_
    | refine cw_seq ?_
    | refine nw_seq ?_
    | refine nw_block ?_
    | refine cw_block ?_
    | refine cw_skip ?_
    | refine cw_region ?_
    | refine cw_exit rfl ?_
    | refine cw_true rfl ?_
    | refine cw_false rfl ?_)
  refine x_call rfl rfl rfl trivial (as_Get (h := 1) (i := 0) hA8 (by decide) (by simp)) ?_
  rintro _ _ ⟨rfl, rfl⟩
  refine ⟨trivial, ?_⟩
  have e8 : getA ⟨2, [([9], true), ([], true)], []⟩ 1 0 = 9 := rfl
  have e9 : errA ⟨2, [([9], true), ([], true)], []⟩ 1 0 = 0 := rfl
  rw [e8, e9]
  repeat (first
    | refine x_move rfl rfl rfl trivial ?_
    | refine x_assign rfl rfl rfl trivial ?_
    | refine x_add rfl rfl rfl (wrap_i64 (by omega) (by omega)) rfl trivial ?_
    | refine x_sub_ rfl rfl rfl (wrap_i64 (by omega) (by omega)) rfl trivial ?_
    | refine x_sub_ rfl rfl rfl (wrap_u32 (by omega) (by omega)) rfl trivial ?_
    | refine x_add rfl rfl rfl (wrap_u32 (by omega) (by omega)) rfl trivial ?_
    | refine x_peqn rfl rfl rfl rfl trivial ?_
    | refine x_pnen rfl rfl rfl rfl trivial ?_
    | refine x_mul rfl rfl rfl (wrap_i64 (by omega) (by omega)) rfl trivial ?_
    | refine x_ibin rfl rfl rfl rfl rfl trivial ?_
    | refine x_neg_ rfl rfl (wrap_i64 (by omega) (by omega)) rfl trivial ?_
    | refine x_len rfl rfl (by assumption) rfl trivial ?_
    | refine x_pick_t rfl rfl rfl rfl trivial ?_
    | refine x_pick_f rfl rfl rfl rfl trivial ?_
    | refine x_not rfl rfl rfl trivial ?_
    | refine x_beq rfl rfl rfl rfl trivial ?_
    | refine x_bne rfl rfl rfl rfl trivial ?_
    | refine x_extract rfl rfl rfl rfl trivial ?_
    | refine x_nilCheck rfl rfl rfl trivial ?_
    | refine x_fieldAddr rfl rfl rfl rfl trivial ?_
    | refine x_skip trivial rfl rfl rfl ?_
    | refine x_indexAddr1 rfl rfl rfl (by assumption) (by omega) (by omega) rfl trivial ?_
    | refine x_indexAddr rfl rfl rfl (by assumption) (by omega) (by omega) rfl trivial ?_
    | refine x_nil ?_
    | refine cw_seq ?_
    | refine nw_seq ?_
    | refine nw_block ?_
    | refine cw_block ?_
    | refine cw_skip ?_
    | refine cw_region ?_
    | refine cw_exit rfl ?_
    | refine cw_true rfl ?_
    | refine cw_false rfl ?_)
  refine x_call rfl rfl rfl trivial (as_Live hA8 (by simp) (by simp)) ?_
  rintro _ _ ⟨rfl, rfl⟩
  refine ⟨trivial, ?_⟩
  repeat (first
    | refine x_move rfl rfl rfl trivial ?_
    | refine x_assign rfl rfl rfl trivial ?_
    | refine x_add rfl rfl rfl (wrap_i64 (by omega) (by omega)) rfl trivial ?_
    | refine x_sub_ rfl rfl rfl (wrap_i64 (by omega) (by omega)) rfl trivial ?_
    | refine x_sub_ rfl rfl rfl (wrap_u32 (by omega) (by omega)) rfl trivial ?_
    | refine x_add rfl rfl rfl (wrap_u32 (by omega) (by omega)) rfl trivial ?_
    | refine x_peqn rfl rfl rfl rfl trivial ?_
    | refine x_pnen rfl rfl rfl rfl trivial ?_
    | refine x_mul rfl rfl rfl (wrap_i64 (by omega) (by omega)) rfl trivial ?_
    | refine x_ibin rfl rfl rfl rfl rfl trivial ?_
    | refine x_neg_ rfl rfl (wrap_i64 (by omega) (by omega)) rfl trivial ?_
    | refine x_len rfl rfl (by assumption) rfl trivial ?_
    | refine x_pick_t rfl rfl rfl rfl trivial ?_
    | refine x_pick_f rfl rfl rfl rfl trivial ?_
    | refine x_not rfl rfl rfl trivial ?_
    | refine x_beq rfl rfl rfl rfl trivial ?_
    | refine x_bne rfl rfl rfl rfl trivial ?_
    | refine x_extract rfl rfl rfl rfl trivial ?_
    | refine x_nilCheck rfl rfl rfl trivial ?_
    | refine x_fieldAddr rfl rfl rfl rfl trivial ?_
    | refine x_skip trivial rfl rfl rfl ?_
    | refine x_indexAddr1 rfl rfl rfl (by assumption) (by omega) (by omega) rfl trivial ?_
    | refine x_indexAddr rfl rfl rfl (by assumption) (by omega) (by omega) rfl trivial ?_
    | refine x_nil ?_
    | refine cw_seq ?_
    | refine nw_seq ?_
    | refine nw_block ?_
    | refine cw_block ?_
    | refine cw_skip ?_
    | refine cw_region ?_
    | refine cw_exit rfl ?_
    | refine cw_true rfl ?_
    | refine cw_false rfl ?_)
  refine x_call rfl rfl rfl trivial (as_Free hA8 hw7 (by simp) (by simp)) ?_
  rintro _ _ ⟨rfl, rfl⟩
  refine ⟨trivial, ?_⟩
  repeat (first
    | refine x_move rfl rfl rfl trivial ?_
    | refine x_assign rfl rfl rfl trivial ?_
    | refine x_add rfl rfl rfl (wrap_i64 (by omega) (by omega)) rfl trivial ?_
    | refine x_sub_ rfl rfl rfl (wrap_i64 (by omega) (by omega)) rfl trivial ?_
    | refine x_sub_ rfl rfl rfl (wrap_u32 (by omega) (by omega)) rfl trivial ?_
    | refine x_add rfl rfl rfl (wrap_u32 (by omega) (by omega)) rfl trivial ?_
    | refine x_peqn rfl rfl rfl rfl trivial ?_
    | refine x_pnen rfl rfl rfl rfl trivial ?_
    | refine x_mul rfl rfl rfl (wrap_i64 (by omega) (by omega)) rfl trivial ?_
    | refine x_ibin rfl rfl rfl rfl rfl trivial ?_
    | refine x_neg_ rfl rfl (wrap_i64 (by omega) (by omega)) rfl trivial ?_
    | refine x_len rfl rfl (by assumption) rfl trivial ?_
    | refine x_pick_t rfl rfl rfl rfl trivial ?_
    | refine x_pick_f rfl rfl rfl rfl trivial ?_
    | refine x_not rfl rfl rfl trivial ?_
    | refine x_beq rfl rfl rfl rfl trivial ?_
    | refine x_bne rfl rfl rfl rfl trivial ?_
    | refine x_extract rfl rfl rfl rfl trivial ?_
    | refine x_nilCheck rfl rfl rfl trivial ?_
    | refine x_fieldAddr rfl rfl rfl rfl trivial ?_
    | refine x_skip trivial rfl rfl rfl ?_
    | refine x_indexAddr1 rfl rfl rfl (by assumption) (by omega) (by omega) rfl trivial ?_
    | refine x_indexAddr rfl rfl rfl (by assumption) (by omega) (by omega) rfl trivial ?_
    | refine x_nil ?_
    | refine cw_seq ?_
    | refine nw_seq ?_
    | refine nw_block ?_
    | refine cw_block ?_
    | refine cw_skip ?_
    | refine cw_region ?_
    | refine cw_exit rfl ?_
    | refine cw_true rfl ?_
    | refine cw_false rfl ?_)
  refine x_call rfl rfl rfl trivial (arena_New (-1) H8) ?_
  rintro _ H9 hN
  refine ⟨trivial, ?_⟩
  rcases hN with ⟨_, rfl, rfl⟩ | ⟨h, _⟩
  · repeat (first
      | refine x_move rfl rfl rfl trivial ?_
      | refine x_assign rfl rfl rfl trivial ?_
      | refine x_add rfl rfl rfl (wrap_i64 (by omega) (by omega)) rfl trivial ?_
      | refine x_sub_ rfl rfl rfl (wrap_i64 (by omega) (by omega)) rfl trivial ?_
      | refine x_sub_ rfl rfl rfl (wrap_u32 (by omega) (by omega)) rfl trivial ?_
      | refine x_add rfl rfl rfl (wrap_u32 (by omega) (by omega)) rfl trivial ?_
      | refine x_peqn rfl rfl rfl rfl trivial ?_
      | refine x_pnen rfl rfl rfl rfl trivial ?_
      | refine x_mul rfl rfl rfl (wrap_i64 (by omega) (by omega)) rfl trivial ?_
      | refine x_ibin rfl rfl rfl rfl rfl trivial ?_
      | refine x_neg_ rfl rfl (wrap_i64 (by omega) (by omega)) rfl trivial ?_
      | refine x_len rfl rfl (by assumption) rfl trivial ?_
      | refine x_pick_t rfl rfl rfl rfl trivial ?_
      | refine x_pick_f rfl rfl rfl rfl trivial ?_
      | refine x_not rfl rfl rfl trivial ?_
      | refine x_beq rfl rfl rfl rfl trivial ?_
      | refine x_bne rfl rfl rfl rfl trivial ?_
      | refine x_extract rfl rfl rfl rfl trivial ?_
      | refine x_nilCheck rfl rfl rfl trivial ?_
      | refine x_fieldAddr rfl rfl rfl rfl trivial ?_
      | refine x_skip trivial rfl rfl rfl ?_
      | refine x_indexAddr1 rfl rfl rfl (by assumption) (by omega) (by omega) rfl trivial ?_
      | refine x_indexAddr rfl rfl rfl (by assumption) (by omega) (by omega) rfl trivial ?_
      | refine x_nil ?_
      | refine cw_seq ?_
      | refine nw_seq ?_
      | refine nw_block ?_
      | refine cw_block ?_
      | refine cw_skip ?_
      | refine cw_region ?_
      | refine cw_exit rfl ?_
      | refine cw_true rfl ?_
      | refine cw_false rfl ?_)
    exact cw_ret1 rfl rfl ⟨rfl, hA8.keep0⟩
  · omega

theorem walk_ArenaBack {many give : Int} {H : Heap} : Ret Try.prog 3 [.int .i64 many, .int .i64 give] H (Yes H) := by
  refine ret_of Try.func3 rfl rfl rfl rfl ?_
  intro w0
  repeat (first
    | refine x_move rfl rfl rfl trivial ?_
    | refine x_assign rfl rfl rfl trivial ?_
    | refine x_add rfl rfl rfl (wrap_i64 (by omega) (by omega)) rfl trivial ?_
    | refine x_sub_ rfl rfl rfl (wrap_i64 (by omega) (by omega)) rfl trivial ?_
    | refine x_sub_ rfl rfl rfl (wrap_u32 (by omega) (by omega)) rfl trivial ?_
    | refine x_add rfl rfl rfl (wrap_u32 (by omega) (by omega)) rfl trivial ?_
    | refine x_peqn rfl rfl rfl rfl trivial ?_
    | refine x_pnen rfl rfl rfl rfl trivial ?_
    | refine x_mul rfl rfl rfl (wrap_i64 (by omega) (by omega)) rfl trivial ?_
    | refine x_ibin rfl rfl rfl rfl rfl trivial ?_
    | refine x_neg_ rfl rfl (wrap_i64 (by omega) (by omega)) rfl trivial ?_
    | refine x_len rfl rfl (by assumption) rfl trivial ?_
    | refine x_pick_t rfl rfl rfl rfl trivial ?_
    | refine x_pick_f rfl rfl rfl rfl trivial ?_
    | refine x_not rfl rfl rfl trivial ?_
    | refine x_beq rfl rfl rfl rfl trivial ?_
    | refine x_bne rfl rfl rfl rfl trivial ?_
    | refine x_extract rfl rfl rfl rfl trivial ?_
    | refine x_nilCheck rfl rfl rfl trivial ?_
    | refine x_fieldAddr rfl rfl rfl rfl trivial ?_
    | refine x_skip trivial rfl rfl rfl ?_
    | refine x_indexAddr1 rfl rfl rfl (by assumption) (by omega) (by omega) rfl trivial ?_
    | refine x_indexAddr rfl rfl rfl (by assumption) (by omega) (by omega) rfl trivial ?_
    | refine x_nil ?_
    | refine cw_seq ?_
    | refine nw_seq ?_
    | refine nw_block ?_
    | refine cw_block ?_
    | refine cw_skip ?_
    | refine cw_region ?_
    | refine cw_exit rfl ?_
    | refine cw_true rfl ?_
    | refine cw_false rfl ?_)
  refine x_call rfl rfl rfl trivial (law_LowF many 21 (by omega) H) ?_
  rintro _ _ ⟨rfl, rfl⟩
  refine ⟨trivial, ?_⟩
  have b1 := low_bd many (m := 21) (by omega)
  obtain ⟨m, hm⟩ : ∃ m : Nat, low many 21 = (m : Int) := ⟨(low many 21).toNat, by omega⟩
  rw [hm] at b1 ⊢
  repeat (first
    | refine x_move rfl rfl rfl trivial ?_
    | refine x_assign rfl rfl rfl trivial ?_
    | refine x_add rfl rfl rfl (wrap_i64 (by omega) (by omega)) rfl trivial ?_
    | refine x_sub_ rfl rfl rfl (wrap_i64 (by omega) (by omega)) rfl trivial ?_
    | refine x_sub_ rfl rfl rfl (wrap_u32 (by omega) (by omega)) rfl trivial ?_
    | refine x_add rfl rfl rfl (wrap_u32 (by omega) (by omega)) rfl trivial ?_
    | refine x_peqn rfl rfl rfl rfl trivial ?_
    | refine x_pnen rfl rfl rfl rfl trivial ?_
    | refine x_mul rfl rfl rfl (wrap_i64 (by omega) (by omega)) rfl trivial ?_
    | refine x_ibin rfl rfl rfl rfl rfl trivial ?_
    | refine x_neg_ rfl rfl (wrap_i64 (by omega) (by omega)) rfl trivial ?_
    | refine x_len rfl rfl (by assumption) rfl trivial ?_
    | refine x_pick_t rfl rfl rfl rfl trivial ?_
    | refine x_pick_f rfl rfl rfl rfl trivial ?_
    | refine x_not rfl rfl rfl trivial ?_
    | refine x_beq rfl rfl rfl rfl trivial ?_
    | refine x_bne rfl rfl rfl rfl trivial ?_
    | refine x_extract rfl rfl rfl rfl trivial ?_
    | refine x_nilCheck rfl rfl rfl trivial ?_
    | refine x_fieldAddr rfl rfl rfl rfl trivial ?_
    | refine x_skip trivial rfl rfl rfl ?_
    | refine x_indexAddr1 rfl rfl rfl (by assumption) (by omega) (by omega) rfl trivial ?_
    | refine x_indexAddr rfl rfl rfl (by assumption) (by omega) (by omega) rfl trivial ?_
    | refine x_nil ?_
    | refine cw_seq ?_
    | refine nw_seq ?_
    | refine nw_block ?_
    | refine cw_block ?_
    | refine cw_skip ?_
    | refine cw_region ?_
    | refine cw_exit rfl ?_
    | refine cw_true rfl ?_
    | refine cw_false rfl ?_)
  refine x_call rfl rfl rfl trivial (as_New 50 (by omega) H) ?_
  rintro _ H1 ⟨b, rfl, hA1⟩
  refine ⟨trivial, ?_⟩
  repeat (first
    | refine x_move rfl rfl rfl trivial ?_
    | refine x_assign rfl rfl rfl trivial ?_
    | refine x_add rfl rfl rfl (wrap_i64 (by omega) (by omega)) rfl trivial ?_
    | refine x_sub_ rfl rfl rfl (wrap_i64 (by omega) (by omega)) rfl trivial ?_
    | refine x_sub_ rfl rfl rfl (wrap_u32 (by omega) (by omega)) rfl trivial ?_
    | refine x_add rfl rfl rfl (wrap_u32 (by omega) (by omega)) rfl trivial ?_
    | refine x_peqn rfl rfl rfl rfl trivial ?_
    | refine x_pnen rfl rfl rfl rfl trivial ?_
    | refine x_mul rfl rfl rfl (wrap_i64 (by omega) (by omega)) rfl trivial ?_
    | refine x_ibin rfl rfl rfl rfl rfl trivial ?_
    | refine x_neg_ rfl rfl (wrap_i64 (by omega) (by omega)) rfl trivial ?_
    | refine x_len rfl rfl (by assumption) rfl trivial ?_
    | refine x_pick_t rfl rfl rfl rfl trivial ?_
    | refine x_pick_f rfl rfl rfl rfl trivial ?_
    | refine x_not rfl rfl rfl trivial ?_
    | refine x_beq rfl rfl rfl rfl trivial ?_
    | refine x_bne rfl rfl rfl rfl trivial ?_
    | refine x_extract rfl rfl rfl rfl trivial ?_
    | refine x_nilCheck rfl rfl rfl trivial ?_
    | refine x_fieldAddr rfl rfl rfl rfl trivial ?_
    | refine x_skip trivial rfl rfl rfl ?_
    | refine x_indexAddr1 rfl rfl rfl (by assumption) (by omega) (by omega) rfl trivial ?_
    | refine x_indexAddr rfl rfl rfl (by assumption) (by omega) (by omega) rfl trivial ?_
    | refine x_nil ?_
    | refine cw_seq ?_
    | refine nw_seq ?_
    | refine nw_block ?_
    | refine cw_block ?_
    | refine cw_skip ?_
    | refine cw_region ?_
    | refine cw_exit rfl ?_
    | refine cw_true rfl ?_
    | refine cw_false rfl ?_)
  refine cw_loop (fun s : Nat => [(0, .int .i64 m), (1, .int .i64 give), (5, ptr b 0), (6, .int .i64 s)])
    (fun s H' => s ≤ m ∧ As Non H H' b ⟨50, List.replicate s ([], true), []⟩) (fun s => m - s) 0 (by repeat (first | exact True.intro | refine ⟨rfl, ?_⟩)) ⟨Nat.zero_le _, hA1⟩ ?_
  rintro i H2 ⟨hi, hA2⟩
  have hlive : liveA ⟨50, List.replicate i ([], true), []⟩ = i := by simp [liveA]
  have hwi : Ar.Wf ⟨50, List.replicate i ([], true), []⟩ := ⟨by simp, by rw [hlive]; simp only; omega, by simp, by simp, by simp [takenA]⟩
  repeat (first
    | refine x_move rfl rfl rfl trivial ?_
    | refine x_assign rfl rfl rfl trivial ?_
    | refine x_add rfl rfl rfl (wrap_i64 (by omega) (by omega)) rfl trivial ?_
    | refine x_sub_ rfl rfl rfl (wrap_i64 (by omega) (by omega)) rfl trivial ?_
    | refine x_sub_ rfl rfl rfl (wrap_u32 (by omega) (by omega)) rfl trivial ?_
    | refine x_add rfl rfl rfl (wrap_u32 (by omega) (by omega)) rfl trivial ?_
    | refine x_peqn rfl rfl rfl rfl trivial ?_
    | refine x_pnen rfl rfl rfl rfl trivial ?_
    | refine x_mul rfl rfl rfl (wrap_i64 (by omega) (by omega)) rfl trivial ?_
    | refine x_ibin rfl rfl rfl rfl rfl trivial ?_
    | refine x_neg_ rfl rfl (wrap_i64 (by omega) (by omega)) rfl trivial ?_
    | refine x_len rfl rfl (by assumption) rfl trivial ?_
    | refine x_pick_t rfl rfl rfl rfl trivial ?_
    | refine x_pick_f rfl rfl rfl rfl trivial ?_
    | refine x_not rfl rfl rfl trivial ?_
    | refine x_beq rfl rfl rfl rfl trivial ?_
    | refine x_bne rfl rfl rfl rfl trivial ?_
    | refine x_extract rfl rfl rfl rfl trivial ?_
    | refine x_nilCheck rfl rfl rfl trivial ?_
    | refine x_fieldAddr rfl rfl rfl rfl trivial ?_
    | refine x_skip trivial rfl rfl rfl ?_
    | refine x_indexAddr1 rfl rfl rfl (by assumption) (by omega) (by omega) rfl trivial ?_
    | refine x_indexAddr rfl rfl rfl (by assumption) (by omega) (by omega) rfl trivial ?_
    | refine x_nil ?_
    | refine cw_seq ?_
    | refine nw_seq ?_
    | refine nw_block ?_
    | refine cw_block ?_
    | refine cw_skip ?_
    | refine cw_region ?_
    | refine cw_exit rfl ?_
    | refine cw_true rfl ?_
    | refine cw_false rfl ?_)
  refine cw_cond rfl (fun hlt => ?_) (fun hlt => ?_) <;> (try simp at hlt)
  · have e : takeA ⟨50, List.replicate i ([], true), []⟩ [] = (((i + 1 : Nat) : Int), 0, ⟨50, List.replicate (i + 1) ([], true), []⟩) := by
      unfold takeA
      rw [if_neg (by simp), hlive, if_neg (by simp only; omega)]
      simp [List.replicate_succ']
    repeat (first
      | refine x_move rfl rfl rfl trivial ?_
      | refine x_assign rfl rfl rfl trivial ?_
      | refine x_add rfl rfl rfl (wrap_i64 (by omega) (by omega)) rfl trivial ?_
      | refine x_sub_ rfl rfl rfl (wrap_i64 (by omega) (by omega)) rfl trivial ?_
      | refine x_sub_ rfl rfl rfl (wrap_u32 (by omega) (by omega)) rfl trivial ?_
      | refine x_add rfl rfl rfl (wrap_u32 (by omega) (by omega)) rfl trivial ?_
      | refine x_peqn rfl rfl rfl rfl trivial ?_
      | refine x_pnen rfl rfl rfl rfl trivial ?_
      | refine x_mul rfl rfl rfl (wrap_i64 (by omega) (by omega)) rfl trivial ?_
      | refine x_ibin rfl rfl rfl rfl rfl trivial ?_
      | refine x_neg_ rfl rfl (wrap_i64 (by omega) (by omega)) rfl trivial ?_
      | refine x_len rfl rfl (by assumption) rfl trivial ?_
      | refine x_pick_t rfl rfl rfl rfl trivial ?_
      | refine x_pick_f rfl rfl rfl rfl trivial ?_
      | refine x_not rfl rfl rfl trivial ?_
      | refine x_beq rfl rfl rfl rfl trivial ?_
      | refine x_bne rfl rfl rfl rfl trivial ?_
      | refine x_extract rfl rfl rfl rfl trivial ?_
      | refine x_nilCheck rfl rfl rfl trivial ?_
      | refine x_fieldAddr rfl rfl rfl rfl trivial ?_
      | refine x_skip trivial rfl rfl rfl ?_
      | refine x_indexAddr1 rfl rfl rfl (by assumption) (by omega) (by omega) rfl trivial ?_
      | refine x_indexAddr rfl rfl rfl (by assumption) (by omega) (by omega) rfl trivial ?_
      | refine x_nil ?_
      | refine cw_seq ?_
      | refine nw_seq ?_
      | refine nw_block ?_
      | refine cw_block ?_
      | refine cw_skip ?_
      | refine cw_region ?_
      | refine cw_exit rfl ?_
      | refine cw_true rfl ?_
      | refine cw_false rfl ?_)
    refine x_call rfl rfl rfl trivial (as_Take hA2 hwi (Ws.nil _) (by simp) (by simp; omega) (by simp)) ?_
    rintro _ H3 ⟨rfl, hA3, _⟩
    refine ⟨trivial, ?_⟩
    rw [e] at hA3 ⊢
    simp only at hA3
    repeat (first
      | refine x_move rfl rfl rfl trivial ?_
      | refine x_assign rfl rfl rfl trivial ?_
      | refine x_add rfl rfl rfl (wrap_i64 (by omega) (by omega)) rfl trivial ?_
      | refine x_sub_ rfl rfl rfl (wrap_i64 (by omega) (by omega)) rfl trivial ?_
      | refine x_sub_ rfl rfl rfl (wrap_u32 (by omega) (by omega)) rfl trivial ?_
      | refine x_add rfl rfl rfl (wrap_u32 (by omega) (by omega)) rfl trivial ?_
      | refine x_peqn rfl rfl rfl rfl trivial ?_
      | refine x_pnen rfl rfl rfl rfl trivial ?_
      | refine x_mul rfl rfl rfl (wrap_i64 (by omega) (by omega)) rfl trivial ?_
      | refine x_ibin rfl rfl rfl rfl rfl trivial ?_
      | refine x_neg_ rfl rfl (wrap_i64 (by omega) (by omega)) rfl trivial ?_
      | refine x_len rfl rfl (by assumption) rfl trivial ?_
      | refine x_pick_t rfl rfl rfl rfl trivial ?_
      | refine x_pick_f rfl rfl rfl rfl trivial ?_
      | refine x_not rfl rfl rfl trivial ?_
      | refine x_beq rfl rfl rfl rfl trivial ?_
      | refine x_bne rfl rfl rfl rfl trivial ?_
      | refine x_extract rfl rfl rfl rfl trivial ?_
      | refine x_nilCheck rfl rfl rfl trivial ?_
      | refine x_fieldAddr rfl rfl rfl rfl trivial ?_
      | refine x_skip trivial rfl rfl rfl ?_
      | refine x_indexAddr1 rfl rfl rfl (by assumption) (by omega) (by omega) rfl trivial ?_
      | refine x_indexAddr rfl rfl rfl (by assumption) (by omega) (by omega) rfl trivial ?_
      | refine x_nil ?_
      | refine cw_seq ?_
      | refine nw_seq ?_
      | refine nw_block ?_
      | refine cw_block ?_
      | refine cw_skip ?_
      | refine cw_region ?_
      | refine cw_exit rfl ?_
      | refine cw_true rfl ?_
      | refine cw_false rfl ?_)
    refine x_conv_int rfl rfl rfl trivial ?_
    rw [wrap_i64 (by omega) (by omega)]
    repeat (first
      | refine x_move rfl rfl rfl trivial ?_
      | refine x_assign rfl rfl rfl trivial ?_
      | refine x_add rfl rfl rfl (wrap_i64 (by omega) (by omega)) rfl trivial ?_
      | refine x_sub_ rfl rfl rfl (wrap_i64 (by omega) (by omega)) rfl trivial ?_
      | refine x_sub_ rfl rfl rfl (wrap_u32 (by omega) (by omega)) rfl trivial ?_
      | refine x_add rfl rfl rfl (wrap_u32 (by omega) (by omega)) rfl trivial ?_
      | refine x_peqn rfl rfl rfl rfl trivial ?_
      | refine x_pnen rfl rfl rfl rfl trivial ?_
      | refine x_mul rfl rfl rfl (wrap_i64 (by omega) (by omega)) rfl trivial ?_
      | refine x_ibin rfl rfl rfl rfl rfl trivial ?_
      | refine x_neg_ rfl rfl (wrap_i64 (by omega) (by omega)) rfl trivial ?_
      | refine x_len rfl rfl (by assumption) rfl trivial ?_
      | refine x_pick_t rfl rfl rfl rfl trivial ?_
      | refine x_pick_f rfl rfl rfl rfl trivial ?_
      | refine x_not rfl rfl rfl trivial ?_
      | refine x_beq rfl rfl rfl rfl trivial ?_
      | refine x_bne rfl rfl rfl rfl trivial ?_
      | refine x_extract rfl rfl rfl rfl trivial ?_
      | refine x_nilCheck rfl rfl rfl trivial ?_
      | refine x_fieldAddr rfl rfl rfl rfl trivial ?_
      | refine x_skip trivial rfl rfl rfl ?_
      | refine x_indexAddr1 rfl rfl rfl (by assumption) (by omega) (by omega) rfl trivial ?_
      | refine x_indexAddr rfl rfl rfl (by assumption) (by omega) (by omega) rfl trivial ?_
      | refine x_nil ?_
      | refine cw_seq ?_
      | refine nw_seq ?_
      | refine nw_block ?_
      | refine cw_block ?_
      | refine cw_skip ?_
      | refine cw_region ?_
      | refine cw_exit rfl ?_
      | refine cw_true rfl ?_
      | refine cw_false rfl ?_)
    refine cw_cond rfl (fun h => absurd h (by simp)) (fun _ => ?_)
    repeat (first
      | refine x_move rfl rfl rfl trivial ?_
      | refine x_assign rfl rfl rfl trivial ?_
      | refine x_add rfl rfl rfl (wrap_i64 (by omega) (by omega)) rfl trivial ?_
      | refine x_sub_ rfl rfl rfl (wrap_i64 (by omega) (by omega)) rfl trivial ?_
      | refine x_sub_ rfl rfl rfl (wrap_u32 (by omega) (by omega)) rfl trivial ?_
      | refine x_add rfl rfl rfl (wrap_u32 (by omega) (by omega)) rfl trivial ?_
      | refine x_peqn rfl rfl rfl rfl trivial ?_
      | refine x_pnen rfl rfl rfl rfl trivial ?_
      | refine x_mul rfl rfl rfl (wrap_i64 (by omega) (by omega)) rfl trivial ?_
      | refine x_ibin rfl rfl rfl rfl rfl trivial ?_
      | refine x_neg_ rfl rfl (wrap_i64 (by omega) (by omega)) rfl trivial ?_
      | refine x_len rfl rfl (by assumption) rfl trivial ?_
      | refine x_pick_t rfl rfl rfl rfl trivial ?_
      | refine x_pick_f rfl rfl rfl rfl trivial ?_
      | refine x_not rfl rfl rfl trivial ?_
      | refine x_beq rfl rfl rfl rfl trivial ?_
      | refine x_bne rfl rfl rfl rfl trivial ?_
      | refine x_extract rfl rfl rfl rfl trivial ?_
      | refine x_nilCheck rfl rfl rfl trivial ?_
      | refine x_fieldAddr rfl rfl rfl rfl trivial ?_
      | refine x_skip trivial rfl rfl rfl ?_
      | refine x_indexAddr1 rfl rfl rfl (by assumption) (by omega) (by omega) rfl trivial ?_
      | refine x_indexAddr rfl rfl rfl (by assumption) (by omega) (by omega) rfl trivial ?_
      | refine x_nil ?_
      | refine cw_seq ?_
      | refine nw_seq ?_
      | refine nw_block ?_
      | refine cw_block ?_
      | refine cw_skip ?_
      | refine cw_region ?_
      | refine cw_exit rfl ?_
      | refine cw_true rfl ?_
      | refine cw_false rfl ?_)
    exact nw_round (i + 1) (by repeat (first | exact True.intro | refine ⟨rfl, ?_⟩)) ⟨by omega, hA3⟩ (by omega)
  · have him : i = m := by omega
    subst him
    have hA2' : As (Zn (.slice none 0 0)) H H2 b ⟨50, List.replicate i ([], true), []⟩ := hA2.step (Keep.refl Non H2) (fun _ h => h) (fun x e => by have := e.2; simp [sc] at this)
    repeat (first
      | refine x_move rfl rfl rfl trivial ?_
      | refine x_assign rfl rfl rfl trivial ?_
      | refine x_add rfl rfl rfl (wrap_i64 (by omega) (by omega)) rfl trivial ?_
      | refine x_sub_ rfl rfl rfl (wrap_i64 (by omega) (by omega)) rfl trivial ?_
      | refine x_sub_ rfl rfl rfl (wrap_u32 (by omega) (by omega)) rfl trivial ?_
      | refine x_add rfl rfl rfl (wrap_u32 (by omega) (by omega)) rfl trivial ?_
      | refine x_peqn rfl rfl rfl rfl trivial ?_
      | refine x_pnen rfl rfl rfl rfl trivial ?_
      | refine x_mul rfl rfl rfl (wrap_i64 (by omega) (by omega)) rfl trivial ?_
      | refine x_ibin rfl rfl rfl rfl rfl trivial ?_
      | refine x_neg_ rfl rfl (wrap_i64 (by omega) (by omega)) rfl trivial ?_
      | refine x_len rfl rfl (by assumption) rfl trivial ?_
      | refine x_pick_t rfl rfl rfl rfl trivial ?_
      | refine x_pick_f rfl rfl rfl rfl trivial ?_
      | refine x_not rfl rfl rfl trivial ?_
      | refine x_beq rfl rfl rfl rfl trivial ?_
      | refine x_bne rfl rfl rfl rfl trivial ?_
      | refine x_extract rfl rfl rfl rfl trivial ?_
      | refine x_nilCheck rfl rfl rfl trivial ?_
      | refine x_fieldAddr rfl rfl rfl rfl trivial ?_
      | refine x_skip trivial rfl rfl rfl ?_
      | refine x_indexAddr1 rfl rfl rfl (by assumption) (by omega) (by omega) rfl trivial ?_
      | refine x_indexAddr rfl rfl rfl (by assumption) (by omega) (by omega) rfl trivial ?_
      | refine x_nil ?_
      | refine cw_seq ?_
      | refine nw_seq ?_
      | refine nw_block ?_
      | refine cw_block ?_
      | refine cw_skip ?_
      | refine cw_region ?_
      | refine cw_exit rfl ?_
      | refine cw_true rfl ?_
      | refine cw_false rfl ?_)
    refine cw_loop (fun s : Nat × Value × Ar => [(0, .int .i64 i), (1, .int .i64 give), (5, ptr b 0), (9, s.2.1), (10, .int .i64 s.1)])
      (fun s H' => s.1 ≤ i ∧ As (Zn s.2.1) H H' b s.2.2 ∧ s.2.2.Wf ∧ s.2.2.most = 50 ∧ s.2.2.cs.length = i ∧ s.2.2.back.length ≤ s.1 ∧ (∀ j, s.1 ≤ j → j < i → s.2.2.cs[j]? = some ([], true)) ∧ Rw encU 1 Eq H' s.2.1 s.2.2.back) (fun s => i - s.1) (0, _, _) (by repeat (first | exact True.intro | refine ⟨rfl, ?_⟩))
      ⟨Nat.zero_le _, hA2', hwi, rfl, by simp, by simp, fun j _ hj => by simp [hj], Rw.nil _ _ _ _⟩ ?_
    rintro ⟨k, v, a⟩ H3 ⟨hk, hA3, hwa, ham, hal, hab, haj, hV⟩
    simp only at hk ham hal hab haj hV
    have hwa : a.Wf := hwa
    have hA3 : As (Zn v) H H3 b a := hA3
    dsimp only
    repeat (first
      | refine x_move rfl rfl rfl trivial ?_
      | refine x_assign rfl rfl rfl trivial ?_
      | refine x_add rfl rfl rfl (wrap_i64 (by omega) (by omega)) rfl trivial ?_
      | refine x_sub_ rfl rfl rfl (wrap_i64 (by omega) (by omega)) rfl trivial ?_
      | refine x_sub_ rfl rfl rfl (wrap_u32 (by omega) (by omega)) rfl trivial ?_
      | refine x_add rfl rfl rfl (wrap_u32 (by omega) (by omega)) rfl trivial ?_
      | refine x_peqn rfl rfl rfl rfl trivial ?_
      | refine x_pnen rfl rfl rfl rfl trivial ?_
      | refine x_mul rfl rfl rfl (wrap_i64 (by omega) (by omega)) rfl trivial ?_
      | refine x_ibin rfl rfl rfl rfl rfl trivial ?_
      | refine x_neg_ rfl rfl (wrap_i64 (by omega) (by omega)) rfl trivial ?_
      | refine x_len rfl rfl (by assumption) rfl trivial ?_
      | refine x_pick_t rfl rfl rfl rfl trivial ?_
      | refine x_pick_f rfl rfl rfl rfl trivial ?_
      | refine x_not rfl rfl rfl trivial ?_
      | refine x_beq rfl rfl rfl rfl trivial ?_
      | refine x_bne rfl rfl rfl rfl trivial ?_
      | refine x_extract rfl rfl rfl rfl trivial ?_
      | refine x_nilCheck rfl rfl rfl trivial ?_
      | refine x_fieldAddr rfl rfl rfl rfl trivial ?_
      | refine x_skip trivial rfl rfl rfl ?_
      | refine x_indexAddr1 rfl rfl rfl (by assumption) (by omega) (by omega) rfl trivial ?_
      | refine x_indexAddr rfl rfl rfl (by assumption) (by omega) (by omega) rfl trivial ?_
      | refine x_nil ?_
      | refine cw_seq ?_
      | refine nw_seq ?_
      | refine nw_block ?_
      | refine cw_block ?_
      | refine cw_skip ?_
      | refine cw_region ?_
      | refine cw_exit rfl ?_
      | refine cw_true rfl ?_
      | refine cw_false rfl ?_)
    refine cw_cond rfl (fun hlt2 => ?_) (fun hlt2 => ?_) <;> (try simp at hlt2)
    · repeat (first
        | refine x_move rfl rfl rfl trivial ?_
        | refine x_assign rfl rfl rfl trivial ?_
        | refine x_add rfl rfl rfl (wrap_i64 (by omega) (by omega)) rfl trivial ?_
        | refine x_sub_ rfl rfl rfl (wrap_i64 (by omega) (by omega)) rfl trivial ?_
        | refine x_sub_ rfl rfl rfl (wrap_u32 (by omega) (by omega)) rfl trivial ?_
        | refine x_add rfl rfl rfl (wrap_u32 (by omega) (by omega)) rfl trivial ?_
        | refine x_peqn rfl rfl rfl rfl trivial ?_
        | refine x_pnen rfl rfl rfl rfl trivial ?_
        | refine x_mul rfl rfl rfl (wrap_i64 (by omega) (by omega)) rfl trivial ?_
        | refine x_ibin rfl rfl rfl rfl rfl trivial ?_
        | refine x_neg_ rfl rfl (wrap_i64 (by omega) (by omega)) rfl trivial ?_
        | refine x_len rfl rfl (by assumption) rfl trivial ?_
        | refine x_pick_t rfl rfl rfl rfl trivial ?_
        | refine x_pick_f rfl rfl rfl rfl trivial ?_
        | refine x_not rfl rfl rfl trivial ?_
        | refine x_beq rfl rfl rfl rfl trivial ?_
        | refine x_bne rfl rfl rfl rfl trivial ?_
        | refine x_extract rfl rfl rfl rfl trivial ?_
        | refine x_nilCheck rfl rfl rfl trivial ?_
        | refine x_fieldAddr rfl rfl rfl rfl trivial ?_
        | refine x_skip trivial rfl rfl rfl ?_
        | refine x_indexAddr1 rfl rfl rfl (by assumption) (by omega) (by omega) rfl trivial ?_
        | refine x_indexAddr rfl rfl rfl (by assumption) (by omega) (by omega) rfl trivial ?_
        | refine x_nil ?_
        | refine cw_seq ?_
        | refine nw_seq ?_
        | refine nw_block ?_
        | refine cw_block ?_
        | refine cw_skip ?_
        | refine cw_region ?_
        | refine cw_exit rfl ?_
        | refine cw_true rfl ?_
        | refine cw_false rfl ?_)
      refine x_shr rfl rfl rfl (by omega) rfl trivial ?_
      repeat (first
        | refine x_move rfl rfl rfl trivial ?_
        | refine x_assign rfl rfl rfl trivial ?_
        | refine x_add rfl rfl rfl (wrap_i64 (by omega) (by omega)) rfl trivial ?_
        | refine x_sub_ rfl rfl rfl (wrap_i64 (by omega) (by omega)) rfl trivial ?_
        | refine x_sub_ rfl rfl rfl (wrap_u32 (by omega) (by omega)) rfl trivial ?_
        | refine x_add rfl rfl rfl (wrap_u32 (by omega) (by omega)) rfl trivial ?_
        | refine x_peqn rfl rfl rfl rfl trivial ?_
        | refine x_pnen rfl rfl rfl rfl trivial ?_
        | refine x_mul rfl rfl rfl (wrap_i64 (by omega) (by omega)) rfl trivial ?_
        | refine x_ibin rfl rfl rfl rfl rfl trivial ?_
        | refine x_neg_ rfl rfl (wrap_i64 (by omega) (by omega)) rfl trivial ?_
        | refine x_len rfl rfl (by assumption) rfl trivial ?_
        | refine x_pick_t rfl rfl rfl rfl trivial ?_
        | refine x_pick_f rfl rfl rfl rfl trivial ?_
        | refine x_not rfl rfl rfl trivial ?_
        | refine x_beq rfl rfl rfl rfl trivial ?_
        | refine x_bne rfl rfl rfl rfl trivial ?_
        | refine x_extract rfl rfl rfl rfl trivial ?_
        | refine x_nilCheck rfl rfl rfl trivial ?_
        | refine x_fieldAddr rfl rfl rfl rfl trivial ?_
        | refine x_skip trivial rfl rfl rfl ?_
        | refine x_indexAddr1 rfl rfl rfl (by assumption) (by omega) (by omega) rfl trivial ?_
        | refine x_indexAddr rfl rfl rfl (by assumption) (by omega) (by omega) rfl trivial ?_
        | refine x_nil ?_
        | refine cw_seq ?_
        | refine nw_seq ?_
        | refine nw_block ?_
        | refine cw_block ?_
        | refine cw_skip ?_
        | refine cw_region ?_
        | refine cw_exit rfl ?_
        | refine cw_true rfl ?_
        | refine cw_false rfl ?_)
      refine cw_cond rfl (fun hbit => ?_) (fun hbit => ?_) <;> (try simp at hbit)
      · have hh : hasA a (k + 1) = true := hasA_iff.2 ⟨by omega, [], haj k (Nat.le_refl _) hlt2⟩
        have e : giveA a (k + 1) = (0, ⟨a.most, a.cs.set k ([], false), a.back ++ [k + 1]⟩) := by unfold giveA; rw [if_neg (by rw [hh]; simp)]; rfl
        have hwg := giveA_wf hwa (k + 1)
        repeat (first
          | refine x_move rfl rfl rfl trivial ?_
          | refine x_assign rfl rfl rfl trivial ?_
          | refine x_add rfl rfl rfl (wrap_i64 (by omega) (by omega)) rfl trivial ?_
          | refine x_sub_ rfl rfl rfl (wrap_i64 (by omega) (by omega)) rfl trivial ?_
          | refine x_sub_ rfl rfl rfl (wrap_u32 (by omega) (by omega)) rfl trivial ?_
          | refine x_add rfl rfl rfl (wrap_u32 (by omega) (by omega)) rfl trivial ?_
          | refine x_peqn rfl rfl rfl rfl trivial ?_
          | refine x_pnen rfl rfl rfl rfl trivial ?_
          | refine x_mul rfl rfl rfl (wrap_i64 (by omega) (by omega)) rfl trivial ?_
          | refine x_ibin rfl rfl rfl rfl rfl trivial ?_
          | refine x_neg_ rfl rfl (wrap_i64 (by omega) (by omega)) rfl trivial ?_
          | refine x_len rfl rfl (by assumption) rfl trivial ?_
          | refine x_pick_t rfl rfl rfl rfl trivial ?_
          | refine x_pick_f rfl rfl rfl rfl trivial ?_
          | refine x_not rfl rfl rfl trivial ?_
          | refine x_beq rfl rfl rfl rfl trivial ?_
          | refine x_bne rfl rfl rfl rfl trivial ?_
          | refine x_extract rfl rfl rfl rfl trivial ?_
          | refine x_nilCheck rfl rfl rfl trivial ?_
          | refine x_fieldAddr rfl rfl rfl rfl trivial ?_
          | refine x_skip trivial rfl rfl rfl ?_
          | refine x_indexAddr1 rfl rfl rfl (by assumption) (by omega) (by omega) rfl trivial ?_
          | refine x_indexAddr rfl rfl rfl (by assumption) (by omega) (by omega) rfl trivial ?_
          | refine x_nil ?_
          | refine cw_seq ?_
          | refine nw_seq ?_
          | refine nw_block ?_
          | refine cw_block ?_
          | refine cw_skip ?_
          | refine cw_region ?_
          | refine cw_exit rfl ?_
          | refine cw_true rfl ?_
          | refine cw_false rfl ?_)
        refine x_conv_int rfl rfl rfl trivial ?_
        rw [wrap_u32 (by omega) (by omega)]
        refine x_call rfl rfl rfl trivial (as_Give (h := k + 1) hA3 (by omega) (by omega) (by omega)) ?_
        rintro _ H4 ⟨rfl, hA4, hk4⟩
        refine ⟨trivial, ?_⟩
        rw [e] at hA4 hwg ⊢
        simp only at hA4 hwg
        have hV4 := own_keep hV hk4
        repeat (first
          | refine x_move rfl rfl rfl trivial ?_
          | refine x_assign rfl rfl rfl trivial ?_
          | refine x_add rfl rfl rfl (wrap_i64 (by omega) (by omega)) rfl trivial ?_
          | refine x_sub_ rfl rfl rfl (wrap_i64 (by omega) (by omega)) rfl trivial ?_
          | refine x_sub_ rfl rfl rfl (wrap_u32 (by omega) (by omega)) rfl trivial ?_
          | refine x_add rfl rfl rfl (wrap_u32 (by omega) (by omega)) rfl trivial ?_
          | refine x_peqn rfl rfl rfl rfl trivial ?_
          | refine x_pnen rfl rfl rfl rfl trivial ?_
          | refine x_mul rfl rfl rfl (wrap_i64 (by omega) (by omega)) rfl trivial ?_
          | refine x_ibin rfl rfl rfl rfl rfl trivial ?_
          | refine x_neg_ rfl rfl (wrap_i64 (by omega) (by omega)) rfl trivial ?_
          | refine x_len rfl rfl (by assumption) rfl trivial ?_
          | refine x_pick_t rfl rfl rfl rfl trivial ?_
          | refine x_pick_f rfl rfl rfl rfl trivial ?_
          | refine x_not rfl rfl rfl trivial ?_
          | refine x_beq rfl rfl rfl rfl trivial ?_
          | refine x_bne rfl rfl rfl rfl trivial ?_
          | refine x_extract rfl rfl rfl rfl trivial ?_
          | refine x_nilCheck rfl rfl rfl trivial ?_
          | refine x_fieldAddr rfl rfl rfl rfl trivial ?_
          | refine x_skip trivial rfl rfl rfl ?_
          | refine x_indexAddr1 rfl rfl rfl (by assumption) (by omega) (by omega) rfl trivial ?_
          | refine x_indexAddr rfl rfl rfl (by assumption) (by omega) (by omega) rfl trivial ?_
          | refine x_nil ?_
          | refine cw_seq ?_
          | refine nw_seq ?_
          | refine nw_block ?_
          | refine cw_block ?_
          | refine cw_skip ?_
          | refine cw_region ?_
          | refine cw_exit rfl ?_
          | refine cw_true rfl ?_
          | refine cw_false rfl ?_)
        refine x_conv_int rfl rfl rfl trivial ?_
        rw [wrap_u32 (by omega) (by omega)]
        refine x_buildSlice (vs := [.int .u32 ((k : Int) + 1)]) rfl rfl rfl rfl (by omega) (oc_cons rfl oc_nil) rfl trivial ?_
        intro H5 hn5
        refine ⟨trivial, ?_⟩
        obtain ⟨q, hq1, hq2⟩ := (hV4.keepN hn5.keep).row
        refine x_append (v := v) (by rfl) (by rfl) (by rfl) rfl rfl rfl hq2 (isSl_some (Nat.le_refl _) (by omega)) (m := 1) (cx := rws encU [k + 1]) rfl (hn5.blk.cels 0 1 (by simp)) (rws_oneC (fun x hx => by simp at hx; subst hx; exact oc_cons rfl oc_nil)) (by omega) rfl trivial ?_
        intro v6 H6 hap
        refine ⟨trivial, ?_⟩
        obtain ⟨hA6, hV6⟩ := app_own hA4 hn5.keep hq1 hap
        repeat (first
          | refine x_move rfl rfl rfl trivial ?_
          | refine x_assign rfl rfl rfl trivial ?_
          | refine x_add rfl rfl rfl (wrap_i64 (by omega) (by omega)) rfl trivial ?_
          | refine x_sub_ rfl rfl rfl (wrap_i64 (by omega) (by omega)) rfl trivial ?_
          | refine x_sub_ rfl rfl rfl (wrap_u32 (by omega) (by omega)) rfl trivial ?_
          | refine x_add rfl rfl rfl (wrap_u32 (by omega) (by omega)) rfl trivial ?_
          | refine x_peqn rfl rfl rfl rfl trivial ?_
          | refine x_pnen rfl rfl rfl rfl trivial ?_
          | refine x_mul rfl rfl rfl (wrap_i64 (by omega) (by omega)) rfl trivial ?_
          | refine x_ibin rfl rfl rfl rfl rfl trivial ?_
          | refine x_neg_ rfl rfl (wrap_i64 (by omega) (by omega)) rfl trivial ?_
          | refine x_len rfl rfl (by assumption) rfl trivial ?_
          | refine x_pick_t rfl rfl rfl rfl trivial ?_
          | refine x_pick_f rfl rfl rfl rfl trivial ?_
          | refine x_not rfl rfl rfl trivial ?_
          | refine x_beq rfl rfl rfl rfl trivial ?_
          | refine x_bne rfl rfl rfl rfl trivial ?_
          | refine x_extract rfl rfl rfl rfl trivial ?_
          | refine x_nilCheck rfl rfl rfl trivial ?_
          | refine x_fieldAddr rfl rfl rfl rfl trivial ?_
          | refine x_skip trivial rfl rfl rfl ?_
          | refine x_indexAddr1 rfl rfl rfl (by assumption) (by omega) (by omega) rfl trivial ?_
          | refine x_indexAddr rfl rfl rfl (by assumption) (by omega) (by omega) rfl trivial ?_
          | refine x_nil ?_
          | refine cw_seq ?_
          | refine nw_seq ?_
          | refine nw_block ?_
          | refine cw_block ?_
          | refine cw_skip ?_
          | refine cw_region ?_
          | refine cw_exit rfl ?_
          | refine cw_true rfl ?_
          | refine cw_false rfl ?_)
        refine nw_round (k + 1, v6, ⟨a.most, a.cs.set k ([], false), a.back ++ [k + 1]⟩) (by repeat (first | exact True.intro | refine ⟨rfl, ?_⟩)) ⟨by show k + 1 ≤ _; omega, hA6, hwg, ham, by simpa using hal, by simp only [List.length_append, List.length_cons, List.length_nil]; omega, fun j h1 h2 => ?_, hV6⟩ (by show i - (k + 1) < i - k; omega)
        show (a.cs.set k _)[j]? = _
        have h1 : k + 1 ≤ j := h1
        rw [List.getElem?_set_ne (by omega)]
        exact haj j (by omega) h2
      · repeat (first
          | refine x_move rfl rfl rfl trivial ?_
          | refine x_assign rfl rfl rfl trivial ?_
          | refine x_add rfl rfl rfl (wrap_i64 (by omega) (by omega)) rfl trivial ?_
          | refine x_sub_ rfl rfl rfl (wrap_i64 (by omega) (by omega)) rfl trivial ?_
          | refine x_sub_ rfl rfl rfl (wrap_u32 (by omega) (by omega)) rfl trivial ?_
          | refine x_add rfl rfl rfl (wrap_u32 (by omega) (by omega)) rfl trivial ?_
          | refine x_peqn rfl rfl rfl rfl trivial ?_
          | refine x_pnen rfl rfl rfl rfl trivial ?_
          | refine x_mul rfl rfl rfl (wrap_i64 (by omega) (by omega)) rfl trivial ?_
          | refine x_ibin rfl rfl rfl rfl rfl trivial ?_
          | refine x_neg_ rfl rfl (wrap_i64 (by omega) (by omega)) rfl trivial ?_
          | refine x_len rfl rfl (by assumption) rfl trivial ?_
          | refine x_pick_t rfl rfl rfl rfl trivial ?_
          | refine x_pick_f rfl rfl rfl rfl trivial ?_
          | refine x_not rfl rfl rfl trivial ?_
          | refine x_beq rfl rfl rfl rfl trivial ?_
          | refine x_bne rfl rfl rfl rfl trivial ?_
          | refine x_extract rfl rfl rfl rfl trivial ?_
          | refine x_nilCheck rfl rfl rfl trivial ?_
          | refine x_fieldAddr rfl rfl rfl rfl trivial ?_
          | refine x_skip trivial rfl rfl rfl ?_
          | refine x_indexAddr1 rfl rfl rfl (by assumption) (by omega) (by omega) rfl trivial ?_
          | refine x_indexAddr rfl rfl rfl (by assumption) (by omega) (by omega) rfl trivial ?_
          | refine x_nil ?_
          | refine cw_seq ?_
          | refine nw_seq ?_
          | refine nw_block ?_
          | refine cw_block ?_
          | refine cw_skip ?_
          | refine cw_region ?_
          | refine cw_exit rfl ?_
          | refine cw_true rfl ?_
          | refine cw_false rfl ?_)
        exact nw_round (k + 1, v, a) (by repeat (first | exact True.intro | refine ⟨rfl, ?_⟩)) ⟨by show k + 1 ≤ _; omega, hA3, hwa, ham, hal, by show a.back.length ≤ k + 1; omega, fun j h1 h2 => haj j (by have h1 : k + 1 ≤ j := h1; omega) h2, hV⟩ (by show i - (k + 1) < i - k; omega)
    · have hke : k = i := by omega
      subst hke
      have sV := hV.sl
      obtain ⟨bs, hbs⟩ : ∃ bs, bs = a.back := ⟨_, rfl⟩
      rw [← hbs] at hV sV hab
      repeat (first
        | refine x_move rfl rfl rfl trivial ?_
        | refine x_assign rfl rfl rfl trivial ?_
        | refine x_add rfl rfl rfl (wrap_i64 (by omega) (by omega)) rfl trivial ?_
        | refine x_sub_ rfl rfl rfl (wrap_i64 (by omega) (by omega)) rfl trivial ?_
        | refine x_sub_ rfl rfl rfl (wrap_u32 (by omega) (by omega)) rfl trivial ?_
        | refine x_add rfl rfl rfl (wrap_u32 (by omega) (by omega)) rfl trivial ?_
        | refine x_peqn rfl rfl rfl rfl trivial ?_
        | refine x_pnen rfl rfl rfl rfl trivial ?_
        | refine x_mul rfl rfl rfl (wrap_i64 (by omega) (by omega)) rfl trivial ?_
        | refine x_ibin rfl rfl rfl rfl rfl trivial ?_
        | refine x_neg_ rfl rfl (wrap_i64 (by omega) (by omega)) rfl trivial ?_
        | refine x_len rfl rfl (by assumption) rfl trivial ?_
        | refine x_pick_t rfl rfl rfl rfl trivial ?_
        | refine x_pick_f rfl rfl rfl rfl trivial ?_
        | refine x_not rfl rfl rfl trivial ?_
        | refine x_beq rfl rfl rfl rfl trivial ?_
        | refine x_bne rfl rfl rfl rfl trivial ?_
        | refine x_extract rfl rfl rfl rfl trivial ?_
        | refine x_nilCheck rfl rfl rfl trivial ?_
        | refine x_fieldAddr rfl rfl rfl rfl trivial ?_
        | refine x_skip trivial rfl rfl rfl ?_
        | refine x_indexAddr1 rfl rfl rfl (by assumption) (by omega) (by omega) rfl trivial ?_
        | refine x_indexAddr rfl rfl rfl (by assumption) (by omega) (by omega) rfl trivial ?_
        | refine x_nil ?_
        | refine cw_seq ?_
        | refine nw_seq ?_
        | refine nw_block ?_
        | refine cw_block ?_
        | refine cw_skip ?_
        | refine cw_region ?_
        | refine cw_exit rfl ?_
        | refine cw_true rfl ?_
        | refine cw_false rfl ?_)
      refine cw_loop (fun s : Nat × Ar => [(0, .int .i64 k), (5, ptr b 0), (9, v), (11, .int .i64 ((s.1 : Int) - 1))])
        (fun s H' => s.1 ≤ bs.length ∧ As (Zn v) H H' b s.2 ∧ s.2.Wf ∧ s.2.most = 50 ∧ s.2.cs.length = k ∧ s.2.back = bs.take s.1 ∧ Rw encU 1 Eq H' v bs) (fun s => s.1) (bs.length, a) (by repeat (first | exact True.intro | refine ⟨rfl, ?_⟩))
        ⟨Nat.le_refl _, hA3, hwa, ham, hal, by rw [List.take_length]; exact hbs.symm, hV⟩ ?_
      rintro ⟨j, c⟩ H4 ⟨hj, hA4, hwc, hcm, hcl, hcb, hV4⟩
      simp only at hj hcm hcl hcb
      have hwc : c.Wf := hwc
      have hA4 : As (Zn v) H H4 b c := hA4
      dsimp only
      have hcbl : c.back.length = j := by rw [hcb, List.length_take]; omega
      have hlv : liveA c = k - j := by unfold liveA; rw [hcl, hcbl]
      repeat (first
        | refine x_move rfl rfl rfl trivial ?_
        | refine x_assign rfl rfl rfl trivial ?_
        | refine x_add rfl rfl rfl (wrap_i64 (by omega) (by omega)) rfl trivial ?_
        | refine x_sub_ rfl rfl rfl (wrap_i64 (by omega) (by omega)) rfl trivial ?_
        | refine x_sub_ rfl rfl rfl (wrap_u32 (by omega) (by omega)) rfl trivial ?_
        | refine x_add rfl rfl rfl (wrap_u32 (by omega) (by omega)) rfl trivial ?_
        | refine x_peqn rfl rfl rfl rfl trivial ?_
        | refine x_pnen rfl rfl rfl rfl trivial ?_
        | refine x_mul rfl rfl rfl (wrap_i64 (by omega) (by omega)) rfl trivial ?_
        | refine x_ibin rfl rfl rfl rfl rfl trivial ?_
        | refine x_neg_ rfl rfl (wrap_i64 (by omega) (by omega)) rfl trivial ?_
        | refine x_len rfl rfl (by assumption) rfl trivial ?_
        | refine x_pick_t rfl rfl rfl rfl trivial ?_
        | refine x_pick_f rfl rfl rfl rfl trivial ?_
        | refine x_not rfl rfl rfl trivial ?_
        | refine x_beq rfl rfl rfl rfl trivial ?_
        | refine x_bne rfl rfl rfl rfl trivial ?_
        | refine x_extract rfl rfl rfl rfl trivial ?_
        | refine x_nilCheck rfl rfl rfl trivial ?_
        | refine x_fieldAddr rfl rfl rfl rfl trivial ?_
        | refine x_skip trivial rfl rfl rfl ?_
        | refine x_indexAddr1 rfl rfl rfl (by assumption) (by omega) (by omega) rfl trivial ?_
        | refine x_indexAddr rfl rfl rfl (by assumption) (by omega) (by omega) rfl trivial ?_
        | refine x_nil ?_
        | refine cw_seq ?_
        | refine nw_seq ?_
        | refine nw_block ?_
        | refine cw_block ?_
        | refine cw_skip ?_
        | refine cw_region ?_
        | refine cw_exit rfl ?_
        | refine cw_true rfl ?_
        | refine cw_false rfl ?_)
      refine cw_cond rfl (fun hge => ?_) (fun hge => ?_) <;> (try simp at hge)
      · obtain ⟨j, rfl⟩ : ∃ i, j = i + 1 := ⟨j - 1, by omega⟩
        have ej : ((j + 1 : Nat) : Int) - 1 = (j : Int) := by omega
        obtain ⟨h, hbh⟩ : ∃ h, bs[j]? = some h := ⟨_, List.getElem?_eq_getElem (by omega)⟩
        have hlast : c.back.getLast? = some h := by
          rw [hcb, List.take_add_one, hbh]
          simp
        have hdr : c.back.dropLast = bs.take j := by
          rw [hcb, List.take_add_one, hbh]
          simp
        obtain ⟨g1, g2, g3⟩ := backA_last hwc hlast
        have e : takeA c [7] = (((h : Nat) : Int), 0, ⟨c.most, c.cs.set (h - 1) ([7], true), bs.take j⟩) := by
          unfold takeA
          rw [if_neg (by simp), if_neg (by rw [hlv, hcm]; omega), hlast]
          simp only
          rw [hdr]
        have hwt := takeA_wf hwc [7]
        obtain ⟨y, hy, hcv⟩ := hV4.rd.cel1 encU_len hbh
        rw [hy] at hcv
        rw [ej]
        repeat (first
          | refine x_move rfl rfl rfl trivial ?_
          | refine x_assign rfl rfl rfl trivial ?_
          | refine x_add rfl rfl rfl (wrap_i64 (by omega) (by omega)) rfl trivial ?_
          | refine x_sub_ rfl rfl rfl (wrap_i64 (by omega) (by omega)) rfl trivial ?_
          | refine x_sub_ rfl rfl rfl (wrap_u32 (by omega) (by omega)) rfl trivial ?_
          | refine x_add rfl rfl rfl (wrap_u32 (by omega) (by omega)) rfl trivial ?_
          | refine x_peqn rfl rfl rfl rfl trivial ?_
          | refine x_pnen rfl rfl rfl rfl trivial ?_
          | refine x_mul rfl rfl rfl (wrap_i64 (by omega) (by omega)) rfl trivial ?_
          | refine x_ibin rfl rfl rfl rfl rfl trivial ?_
          | refine x_neg_ rfl rfl (wrap_i64 (by omega) (by omega)) rfl trivial ?_
          | refine x_len rfl rfl (by assumption) rfl trivial ?_
          | refine x_pick_t rfl rfl rfl rfl trivial ?_
          | refine x_pick_f rfl rfl rfl rfl trivial ?_
          | refine x_not rfl rfl rfl trivial ?_
          | refine x_beq rfl rfl rfl rfl trivial ?_
          | refine x_bne rfl rfl rfl rfl trivial ?_
          | refine x_extract rfl rfl rfl rfl trivial ?_
          | refine x_nilCheck rfl rfl rfl trivial ?_
          | refine x_fieldAddr rfl rfl rfl rfl trivial ?_
          | refine x_skip trivial rfl rfl rfl ?_
          | refine x_indexAddr1 rfl rfl rfl (by assumption) (by omega) (by omega) rfl trivial ?_
          | refine x_indexAddr rfl rfl rfl (by assumption) (by omega) (by omega) rfl trivial ?_
          | refine x_nil ?_
          | refine cw_seq ?_
          | refine nw_seq ?_
          | refine nw_block ?_
          | refine cw_block ?_
          | refine cw_skip ?_
          | refine cw_region ?_
          | refine cw_exit rfl ?_
          | refine cw_true rfl ?_
          | refine cw_false rfl ?_)
        refine x_buildSlice (vs := u64s [7]) rfl rfl rfl rfl (by omega) (u64s_oneC _) rfl trivial ?_
        intro H5 hn5
        refine ⟨trivial, ?_⟩
        refine x_call rfl rfl rfl trivial (as_Take (a := c) (ws := [7]) (hA4.stepN hn5.keep) hwc ⟨isSl_some (Nat.le_refl _) (by omega), hn5.blk.cels 0 1 (by simp [u64s])⟩ (by simp) (by omega) (by omega)) ?_
        rintro _ H6 ⟨rfl, hA6, hk6⟩
        refine ⟨trivial, ?_⟩
        rw [e] at hA6 hwt ⊢
        simp only at hA6 hwt
        have hV6 := own_keep (hV4.keepN hn5.keep) hk6
        obtain ⟨y6, hy6, hcv6⟩ := hV6.rd.cel1 encU_len hbh
        rw [hy6] at hcv6
        repeat (first
          | refine x_move rfl rfl rfl trivial ?_
          | refine x_assign rfl rfl rfl trivial ?_
          | refine x_add rfl rfl rfl (wrap_i64 (by omega) (by omega)) rfl trivial ?_
          | refine x_sub_ rfl rfl rfl (wrap_i64 (by omega) (by omega)) rfl trivial ?_
          | refine x_sub_ rfl rfl rfl (wrap_u32 (by omega) (by omega)) rfl trivial ?_
          | refine x_add rfl rfl rfl (wrap_u32 (by omega) (by omega)) rfl trivial ?_
          | refine x_peqn rfl rfl rfl rfl trivial ?_
          | refine x_pnen rfl rfl rfl rfl trivial ?_
          | refine x_mul rfl rfl rfl (wrap_i64 (by omega) (by omega)) rfl trivial ?_
          | refine x_ibin rfl rfl rfl rfl rfl trivial ?_
          | refine x_neg_ rfl rfl (wrap_i64 (by omega) (by omega)) rfl trivial ?_
          | refine x_len rfl rfl (by assumption) rfl trivial ?_
          | refine x_pick_t rfl rfl rfl rfl trivial ?_
          | refine x_pick_f rfl rfl rfl rfl trivial ?_
          | refine x_not rfl rfl rfl trivial ?_
          | refine x_beq rfl rfl rfl rfl trivial ?_
          | refine x_bne rfl rfl rfl rfl trivial ?_
          | refine x_extract rfl rfl rfl rfl trivial ?_
          | refine x_nilCheck rfl rfl rfl trivial ?_
          | refine x_fieldAddr rfl rfl rfl rfl trivial ?_
          | refine x_skip trivial rfl rfl rfl ?_
          | refine x_indexAddr1 rfl rfl rfl (by assumption) (by omega) (by omega) rfl trivial ?_
          | refine x_indexAddr rfl rfl rfl (by assumption) (by omega) (by omega) rfl trivial ?_
          | refine x_nil ?_
          | refine cw_seq ?_
          | refine nw_seq ?_
          | refine nw_block ?_
          | refine cw_block ?_
          | refine cw_skip ?_
          | refine cw_region ?_
          | refine cw_exit rfl ?_
          | refine cw_true rfl ?_
          | refine cw_false rfl ?_)
        refine x_load rfl rfl (hpmt (hcv6)) rfl trivial ?_
        repeat (first
          | refine x_move rfl rfl rfl trivial ?_
          | refine x_assign rfl rfl rfl trivial ?_
          | refine x_add rfl rfl rfl (wrap_i64 (by omega) (by omega)) rfl trivial ?_
          | refine x_sub_ rfl rfl rfl (wrap_i64 (by omega) (by omega)) rfl trivial ?_
          | refine x_sub_ rfl rfl rfl (wrap_u32 (by omega) (by omega)) rfl trivial ?_
          | refine x_add rfl rfl rfl (wrap_u32 (by omega) (by omega)) rfl trivial ?_
          | refine x_peqn rfl rfl rfl rfl trivial ?_
          | refine x_pnen rfl rfl rfl rfl trivial ?_
          | refine x_mul rfl rfl rfl (wrap_i64 (by omega) (by omega)) rfl trivial ?_
          | refine x_ibin rfl rfl rfl rfl rfl trivial ?_
          | refine x_neg_ rfl rfl (wrap_i64 (by omega) (by omega)) rfl trivial ?_
          | refine x_len rfl rfl (by assumption) rfl trivial ?_
          | refine x_pick_t rfl rfl rfl rfl trivial ?_
          | refine x_pick_f rfl rfl rfl rfl trivial ?_
          | refine x_not rfl rfl rfl trivial ?_
          | refine x_beq rfl rfl rfl rfl trivial ?_
          | refine x_bne rfl rfl rfl rfl trivial ?_
          | refine x_extract rfl rfl rfl rfl trivial ?_
          | refine x_nilCheck rfl rfl rfl trivial ?_
          | refine x_fieldAddr rfl rfl rfl rfl trivial ?_
          | refine x_skip trivial rfl rfl rfl ?_
          | refine x_indexAddr1 rfl rfl rfl (by assumption) (by omega) (by omega) rfl trivial ?_
          | refine x_indexAddr rfl rfl rfl (by assumption) (by omega) (by omega) rfl trivial ?_
          | refine x_nil ?_
          | refine cw_seq ?_
          | refine nw_seq ?_
          | refine nw_block ?_
          | refine cw_block ?_
          | refine cw_skip ?_
          | refine cw_region ?_
          | refine cw_exit rfl ?_
          | refine cw_true rfl ?_
          | refine cw_false rfl ?_)
        refine cw_cond rfl (fun h => absurd h (by simp)) (fun _ => ?_)
        repeat (first
          | refine x_move rfl rfl rfl trivial ?_
          | refine x_assign rfl rfl rfl trivial ?_
          | refine x_add rfl rfl rfl (wrap_i64 (by omega) (by omega)) rfl trivial ?_
          | refine x_sub_ rfl rfl rfl (wrap_i64 (by omega) (by omega)) rfl trivial ?_
          | refine x_sub_ rfl rfl rfl (wrap_u32 (by omega) (by omega)) rfl trivial ?_
          | refine x_add rfl rfl rfl (wrap_u32 (by omega) (by omega)) rfl trivial ?_
          | refine x_peqn rfl rfl rfl rfl trivial ?_
          | refine x_pnen rfl rfl rfl rfl trivial ?_
          | refine x_mul rfl rfl rfl (wrap_i64 (by omega) (by omega)) rfl trivial ?_
          | refine x_ibin rfl rfl rfl rfl rfl trivial ?_
          | refine x_neg_ rfl rfl (wrap_i64 (by omega) (by omega)) rfl trivial ?_
          | refine x_len rfl rfl (by assumption) rfl trivial ?_
          | refine x_pick_t rfl rfl rfl rfl trivial ?_
          | refine x_pick_f rfl rfl rfl rfl trivial ?_
          | refine x_not rfl rfl rfl trivial ?_
          | refine x_beq rfl rfl rfl rfl trivial ?_
          | refine x_bne rfl rfl rfl rfl trivial ?_
          | refine x_extract rfl rfl rfl rfl trivial ?_
          | refine x_nilCheck rfl rfl rfl trivial ?_
          | refine x_fieldAddr rfl rfl rfl rfl trivial ?_
          | refine x_skip trivial rfl rfl rfl ?_
          | refine x_indexAddr1 rfl rfl rfl (by assumption) (by omega) (by omega) rfl trivial ?_
          | refine x_indexAddr rfl rfl rfl (by assumption) (by omega) (by omega) rfl trivial ?_
          | refine x_nil ?_
          | refine cw_seq ?_
          | refine nw_seq ?_
          | refine nw_block ?_
          | refine cw_block ?_
          | refine cw_skip ?_
          | refine cw_region ?_
          | refine cw_exit rfl ?_
          | refine cw_true rfl ?_
          | refine cw_false rfl ?_)
        refine nw_round (j, ⟨c.most, c.cs.set (h - 1) ([7], true), bs.take j⟩) (by repeat (first | exact True.intro | refine ⟨rfl, ?_⟩)) ⟨by show j ≤ _; omega, hA6, hwt, hcm, by simpa using hcl, rfl, hV6⟩ (by show j < j + 1; omega)
      · have hj0 : j = 0 := by omega
        subst hj0
        rw [List.take_zero] at hcb
        have e : takeA c [] = (((k + 1 : Nat) : Int), 0, ⟨c.most, c.cs ++ [([], true)], []⟩) := by
          unfold takeA
          rw [if_neg (by simp), if_neg (by rw [hlv, hcm]; omega), hcb, hcl]
          rfl
        repeat (first
          | refine x_move rfl rfl rfl trivial ?_
          | refine x_assign rfl rfl rfl trivial ?_
          | refine x_add rfl rfl rfl (wrap_i64 (by omega) (by omega)) rfl trivial ?_
          | refine x_sub_ rfl rfl rfl (wrap_i64 (by omega) (by omega)) rfl trivial ?_
          | refine x_sub_ rfl rfl rfl (wrap_u32 (by omega) (by omega)) rfl trivial ?_
          | refine x_add rfl rfl rfl (wrap_u32 (by omega) (by omega)) rfl trivial ?_
          | refine x_peqn rfl rfl rfl rfl trivial ?_
          | refine x_pnen rfl rfl rfl rfl trivial ?_
          | refine x_mul rfl rfl rfl (wrap_i64 (by omega) (by omega)) rfl trivial ?_
          | refine x_ibin rfl rfl rfl rfl rfl trivial ?_
          | refine x_neg_ rfl rfl (wrap_i64 (by omega) (by omega)) rfl trivial ?_
          | refine x_len rfl rfl (by assumption) rfl trivial ?_
          | refine x_pick_t rfl rfl rfl rfl trivial ?_
          | refine x_pick_f rfl rfl rfl rfl trivial ?_
          | refine x_not rfl rfl rfl trivial ?_
          | refine x_beq rfl rfl rfl rfl trivial ?_
          | refine x_bne rfl rfl rfl rfl trivial ?_
          | refine x_extract rfl rfl rfl rfl trivial ?_
          | refine x_nilCheck rfl rfl rfl trivial ?_
          | refine x_fieldAddr rfl rfl rfl rfl trivial ?_
          | refine x_skip trivial rfl rfl rfl ?_
          | refine x_indexAddr1 rfl rfl rfl (by assumption) (by omega) (by omega) rfl trivial ?_
          | refine x_indexAddr rfl rfl rfl (by assumption) (by omega) (by omega) rfl trivial ?_
          | refine x_nil ?_
          | refine cw_seq ?_
          | refine nw_seq ?_
          | refine nw_block ?_
          | refine cw_block ?_
          | refine cw_skip ?_
          | refine cw_region ?_
          | refine cw_exit rfl ?_
          | refine cw_true rfl ?_
          | refine cw_false rfl ?_)
        refine x_call rfl rfl rfl trivial (as_Take (a := c) hA4 hwc (Ws.nil _) (by simp) (by omega) (by omega)) ?_
        rintro _ H5 ⟨rfl, hA5, _⟩
        refine ⟨trivial, ?_⟩
        rw [e] at hA5 ⊢
        simp only at hA5
        have hl5 : liveA ⟨c.most, c.cs ++ [([], true)], []⟩ = (k : Int) + 1 := by unfold liveA; simp [hcl]
        repeat (first
          | refine x_move rfl rfl rfl trivial ?_
          | refine x_assign rfl rfl rfl trivial ?_
          | refine x_add rfl rfl rfl (wrap_i64 (by omega) (by omega)) rfl trivial ?_
          | refine x_sub_ rfl rfl rfl (wrap_i64 (by omega) (by omega)) rfl trivial ?_
          | refine x_sub_ rfl rfl rfl (wrap_u32 (by omega) (by omega)) rfl trivial ?_
          | refine x_add rfl rfl rfl (wrap_u32 (by omega) (by omega)) rfl trivial ?_
          | refine x_peqn rfl rfl rfl rfl trivial ?_
          | refine x_pnen rfl rfl rfl rfl trivial ?_
          | refine x_mul rfl rfl rfl (wrap_i64 (by omega) (by omega)) rfl trivial ?_
          | refine x_ibin rfl rfl rfl rfl rfl trivial ?_
          | refine x_neg_ rfl rfl (wrap_i64 (by omega) (by omega)) rfl trivial ?_
          | refine x_len rfl rfl (by assumption) rfl trivial ?_
          | refine x_pick_t rfl rfl rfl rfl trivial ?_
          | refine x_pick_f rfl rfl rfl rfl trivial ?_
          | refine x_not rfl rfl rfl trivial ?_
          | refine x_beq rfl rfl rfl rfl trivial ?_
          | refine x_bne rfl rfl rfl rfl trivial ?_
          | refine x_extract rfl rfl rfl rfl trivial ?_
          | refine x_nilCheck rfl rfl rfl trivial ?_
          | refine x_fieldAddr rfl rfl rfl rfl trivial ?_
          | refine x_skip trivial rfl rfl rfl ?_
          | refine x_indexAddr1 rfl rfl rfl (by assumption) (by omega) (by omega) rfl trivial ?_
          | refine x_indexAddr rfl rfl rfl (by assumption) (by omega) (by omega) rfl trivial ?_
          | refine x_nil ?_
          | refine cw_seq ?_
          | refine nw_seq ?_
          | refine nw_block ?_
          | refine cw_block ?_
          | refine cw_skip ?_
          | refine cw_region ?_
          | refine cw_exit rfl ?_
          | refine cw_true rfl ?_
          | refine cw_false rfl ?_)
        refine x_conv_int rfl rfl rfl trivial ?_
        rw [wrap_i64 (by omega) (by omega)]
        repeat (first
          | refine x_move rfl rfl rfl trivial ?_
          | refine x_assign rfl rfl rfl trivial ?_
          | refine x_add rfl rfl rfl (wrap_i64 (by omega) (by omega)) rfl trivial ?_
          | refine x_sub_ rfl rfl rfl (wrap_i64 (by omega) (by omega)) rfl trivial ?_
          | refine x_sub_ rfl rfl rfl (wrap_u32 (by omega) (by omega)) rfl trivial ?_
          | refine x_add rfl rfl rfl (wrap_u32 (by omega) (by omega)) rfl trivial ?_
          | refine x_peqn rfl rfl rfl rfl trivial ?_
          | refine x_pnen rfl rfl rfl rfl trivial ?_
          | refine x_mul rfl rfl rfl (wrap_i64 (by omega) (by omega)) rfl trivial ?_
          | refine x_ibin rfl rfl rfl rfl rfl trivial ?_
          | refine x_neg_ rfl rfl (wrap_i64 (by omega) (by omega)) rfl trivial ?_
          | refine x_len rfl rfl (by assumption) rfl trivial ?_
          | refine x_pick_t rfl rfl rfl rfl trivial ?_
          | refine x_pick_f rfl rfl rfl rfl trivial ?_
          | refine x_not rfl rfl rfl trivial ?_
          | refine x_beq rfl rfl rfl rfl trivial ?_
          | refine x_bne rfl rfl rfl rfl trivial ?_
          | refine x_extract rfl rfl rfl rfl trivial ?_
          | refine x_nilCheck rfl rfl rfl trivial ?_
          | refine x_fieldAddr rfl rfl rfl rfl trivial ?_
          | refine x_skip trivial rfl rfl rfl ?_
          | refine x_indexAddr1 rfl rfl rfl (by assumption) (by omega) (by omega) rfl trivial ?_
          | refine x_indexAddr rfl rfl rfl (by assumption) (by omega) (by omega) rfl trivial ?_
          | refine x_nil ?_
          | refine cw_seq ?_
          | refine nw_seq ?_
          | refine nw_block ?_
          | refine cw_block ?_
          | refine cw_skip ?_
          | refine cw_region ?_
          | refine cw_exit rfl ?_
          | refine cw_true rfl ?_
          | refine cw_false rfl ?_)
        refine x_true 99 rfl (by simp) ?_
        repeat (first
          | refine x_move rfl rfl rfl trivial ?_
          | refine x_assign rfl rfl rfl trivial ?_
          | refine x_add rfl rfl rfl (wrap_i64 (by omega) (by omega)) rfl trivial ?_
          | refine x_sub_ rfl rfl rfl (wrap_i64 (by omega) (by omega)) rfl trivial ?_
          | refine x_sub_ rfl rfl rfl (wrap_u32 (by omega) (by omega)) rfl trivial ?_
          | refine x_add rfl rfl rfl (wrap_u32 (by omega) (by omega)) rfl trivial ?_
          | refine x_peqn rfl rfl rfl rfl trivial ?_
          | refine x_pnen rfl rfl rfl rfl trivial ?_
          | refine x_mul rfl rfl rfl (wrap_i64 (by omega) (by omega)) rfl trivial ?_
          | refine x_ibin rfl rfl rfl rfl rfl trivial ?_
          | refine x_neg_ rfl rfl (wrap_i64 (by omega) (by omega)) rfl trivial ?_
          | refine x_len rfl rfl (by assumption) rfl trivial ?_
          | refine x_pick_t rfl rfl rfl rfl trivial ?_
          | refine x_pick_f rfl rfl rfl rfl trivial ?_
          | refine x_not rfl rfl rfl trivial ?_
          | refine x_beq rfl rfl rfl rfl trivial ?_
          | refine x_bne rfl rfl rfl rfl trivial ?_
          | refine x_extract rfl rfl rfl rfl trivial ?_
          | refine x_nilCheck rfl rfl rfl trivial ?_
          | refine x_fieldAddr rfl rfl rfl rfl trivial ?_
          | refine x_skip trivial rfl rfl rfl ?_
          | refine x_indexAddr1 rfl rfl rfl (by assumption) (by omega) (by omega) rfl trivial ?_
          | refine x_indexAddr rfl rfl rfl (by assumption) (by omega) (by omega) rfl trivial ?_
          | refine x_nil ?_
          | refine cw_seq ?_
          | refine nw_seq ?_
          | refine nw_block ?_
          | refine cw_block ?_
          | refine cw_skip ?_
          | refine cw_region ?_
          | refine cw_exit rfl ?_
          | refine cw_true rfl ?_
          | refine cw_false rfl ?_)
        refine x_call rfl rfl rfl trivial (as_Live hA5 (by simp; omega) (by simp)) ?_
        rintro _ _ ⟨rfl, rfl⟩
        refine ⟨trivial, ?_⟩
        rw [hl5]
        repeat (first
          | refine x_move rfl rfl rfl trivial ?_
          | refine x_assign rfl rfl rfl trivial ?_
          | refine x_add rfl rfl rfl (wrap_i64 (by omega) (by omega)) rfl trivial ?_
          | refine x_sub_ rfl rfl rfl (wrap_i64 (by omega) (by omega)) rfl trivial ?_
          | refine x_sub_ rfl rfl rfl (wrap_u32 (by omega) (by omega)) rfl trivial ?_
          | refine x_add rfl rfl rfl (wrap_u32 (by omega) (by omega)) rfl trivial ?_
          | refine x_peqn rfl rfl rfl rfl trivial ?_
          | refine x_pnen rfl rfl rfl rfl trivial ?_
          | refine x_mul rfl rfl rfl (wrap_i64 (by omega) (by omega)) rfl trivial ?_
          | refine x_ibin rfl rfl rfl rfl rfl trivial ?_
          | refine x_neg_ rfl rfl (wrap_i64 (by omega) (by omega)) rfl trivial ?_
          | refine x_len rfl rfl (by assumption) rfl trivial ?_
          | refine x_pick_t rfl rfl rfl rfl trivial ?_
          | refine x_pick_f rfl rfl rfl rfl trivial ?_
          | refine x_not rfl rfl rfl trivial ?_
          | refine x_beq rfl rfl rfl rfl trivial ?_
          | refine x_bne rfl rfl rfl rfl trivial ?_
          | refine x_extract rfl rfl rfl rfl trivial ?_
          | refine x_nilCheck rfl rfl rfl trivial ?_
          | refine x_fieldAddr rfl rfl rfl rfl trivial ?_
          | refine x_skip trivial rfl rfl rfl ?_
          | refine x_indexAddr1 rfl rfl rfl (by assumption) (by omega) (by omega) rfl trivial ?_
          | refine x_indexAddr rfl rfl rfl (by assumption) (by omega) (by omega) rfl trivial ?_
          | refine x_nil ?_
          | refine cw_seq ?_
          | refine nw_seq ?_
          | refine nw_block ?_
          | refine cw_block ?_
          | refine cw_skip ?_
          | refine cw_region ?_
          | refine cw_exit rfl ?_
          | refine cw_true rfl ?_
          | refine cw_false rfl ?_)
        refine x_true 106 rfl (by simp) ?_
        repeat (first
          | refine x_move rfl rfl rfl trivial ?_
          | refine x_assign rfl rfl rfl trivial ?_
          | refine x_add rfl rfl rfl (wrap_i64 (by omega) (by omega)) rfl trivial ?_
          | refine x_sub_ rfl rfl rfl (wrap_i64 (by omega) (by omega)) rfl trivial ?_
          | refine x_sub_ rfl rfl rfl (wrap_u32 (by omega) (by omega)) rfl trivial ?_
          | refine x_add rfl rfl rfl (wrap_u32 (by omega) (by omega)) rfl trivial ?_
          | refine x_peqn rfl rfl rfl rfl trivial ?_
          | refine x_pnen rfl rfl rfl rfl trivial ?_
          | refine x_mul rfl rfl rfl (wrap_i64 (by omega) (by omega)) rfl trivial ?_
          | refine x_ibin rfl rfl rfl rfl rfl trivial ?_
          | refine x_neg_ rfl rfl (wrap_i64 (by omega) (by omega)) rfl trivial ?_
          | refine x_len rfl rfl (by assumption) rfl trivial ?_
          | refine x_pick_t rfl rfl rfl rfl trivial ?_
          | refine x_pick_f rfl rfl rfl rfl trivial ?_
          | refine x_not rfl rfl rfl trivial ?_
          | refine x_beq rfl rfl rfl rfl trivial ?_
          | refine x_bne rfl rfl rfl rfl trivial ?_
          | refine x_extract rfl rfl rfl rfl trivial ?_
          | refine x_nilCheck rfl rfl rfl trivial ?_
          | refine x_fieldAddr rfl rfl rfl rfl trivial ?_
          | refine x_skip trivial rfl rfl rfl ?_
          | refine x_indexAddr1 rfl rfl rfl (by assumption) (by omega) (by omega) rfl trivial ?_
          | refine x_indexAddr rfl rfl rfl (by assumption) (by omega) (by omega) rfl trivial ?_
          | refine x_nil ?_
          | refine cw_seq ?_
          | refine nw_seq ?_
          | refine nw_block ?_
          | refine cw_block ?_
          | refine cw_skip ?_
          | refine cw_region ?_
          | refine cw_exit rfl ?_
          | refine cw_true rfl ?_
          | refine cw_false rfl ?_)
        refine x_call rfl rfl rfl trivial (awake5 _) ?_
        rintro _ Hz ⟨rfl, hkz⟩
        refine ⟨trivial, ?_⟩
        repeat (first
          | refine x_move rfl rfl rfl trivial ?_
          | refine x_assign rfl rfl rfl trivial ?_
          | refine x_add rfl rfl rfl (wrap_i64 (by omega) (by omega)) rfl trivial ?_
          | refine x_sub_ rfl rfl rfl (wrap_i64 (by omega) (by omega)) rfl trivial ?_
          | refine x_sub_ rfl rfl rfl (wrap_u32 (by omega) (by omega)) rfl trivial ?_
          | refine x_add rfl rfl rfl (wrap_u32 (by omega) (by omega)) rfl trivial ?_
          | refine x_peqn rfl rfl rfl rfl trivial ?_
          | refine x_pnen rfl rfl rfl rfl trivial ?_
          | refine x_mul rfl rfl rfl (wrap_i64 (by omega) (by omega)) rfl trivial ?_
          | refine x_ibin rfl rfl rfl rfl rfl trivial ?_
          | refine x_neg_ rfl rfl (wrap_i64 (by omega) (by omega)) rfl trivial ?_
          | refine x_len rfl rfl (by assumption) rfl trivial ?_
          | refine x_pick_t rfl rfl rfl rfl trivial ?_
          | refine x_pick_f rfl rfl rfl rfl trivial ?_
          | refine x_not rfl rfl rfl trivial ?_
          | refine x_beq rfl rfl rfl rfl trivial ?_
          | refine x_bne rfl rfl rfl rfl trivial ?_
          | refine x_extract rfl rfl rfl rfl trivial ?_
          | refine x_nilCheck rfl rfl rfl trivial ?_
          | refine x_fieldAddr rfl rfl rfl rfl trivial ?_
          | refine x_skip trivial rfl rfl rfl ?_
          | refine x_indexAddr1 rfl rfl rfl (by assumption) (by omega) (by omega) rfl trivial ?_
          | refine x_indexAddr rfl rfl rfl (by assumption) (by omega) (by omega) rfl trivial ?_
          | refine x_nil ?_
          | refine cw_seq ?_
          | refine nw_seq ?_
          | refine nw_block ?_
          | refine cw_block ?_
          | refine cw_skip ?_
          | refine cw_region ?_
          | refine cw_exit rfl ?_
          | refine cw_true rfl ?_
          | refine cw_false rfl ?_)
        exact cw_ret1 rfl rfl ⟨rfl, (hA5.keep0).non_trans hkz⟩
end Go.Proofs.Ytioaicleodjmpaa.X
