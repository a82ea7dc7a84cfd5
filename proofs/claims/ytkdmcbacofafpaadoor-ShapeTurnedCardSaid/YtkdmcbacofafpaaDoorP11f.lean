/- Chapter 11, the program: ternary trees. -/
import Derived.Test.YtkdmcbacofafpaaDoorP11e
namespace Go.Proofs.YtkdmcbacofafpaaDoor.X
open Go Go.Proofs
set_option linter.unusedVariables false
set_option linter.unusedSimpArgs false
set_option maxRecDepth 10000
set_option maxHeartbeats 4000000

/-- what is still to be read of a node, ahead of its j-th side -/
def restT (rd0 rd1 rd2 : Nat → Option PT) (c : Cel) (own : Bytes) : Nat → PT → Option PT
  | 0, r => (lowT rd0 c r).bind fun r1 => (midT rd1 c (ownT c own r1)).bind fun r3 => (topT rd2 c r3).bind fun r4 => endT c r4
  | 1, r => (midT rd1 c (ownT c own r)).bind fun r3 => (topT rd2 c r3).bind fun r4 => endT c r4
  | 2, r => (topT rd2 c r).bind fun r4 => endT c r4
  | _, r => endT c r
/-- a row that was gone on with in place is still what it was -/
theorem Own.first {s : Nat} {H : Heap} {v k : Value} {n m : Nat} {cs cx : List Value} (h : Own s H k (n + m) (cs ++ cx)) (hv : IsSl v n) (hl : cs.length = n * s) (e : 0 < sc v → sb v = sb k ∧ so v = so k ∧ sc v = sc k) : Own s H v n cs := by
  refine ⟨hv, hl, fun hc => ?_⟩
  obtain ⟨h1, h2, h3⟩ := e hc
  obtain ⟨l, hB, hle, ht⟩ := h.row (by omega)
  rw [h1, h2, h3]
  refine ⟨l, hB, hle, ?_⟩
  have := congrArg (List.take cs.length) ht
  rw [List.take_take, List.take_left, Nat.min_eq_left (by rw [List.length_append]; omega)] at this
  exact this
/-- what the reader of ternary trees answers: it may go on with its way's row in place -/
def PrgT (way : Bytes) (vw : Value) (o : Option PT) (H : Heap) (r : Value) (H' : Heap) : Prop := Keep (fun z => z = sb vw ∧ 0 < sc vw) H H' ∧ Own 1 H' vw way.length (bvs way) ∧ ∃ v n d P, r = .tuple #[.agg [v, .int .i64 n, .int .i64 d].toArray, .bool o.isSome] ∧ PoS (fun z => H.size ≤ z) H' v P ∧ P.length ≤ 1000000 ∧ ∀ x, o = some x → n = (x.next : Int) ∧ d = (x.deep : Int) ∧ P = x.P

theorem shp_ternary {l : List Cel} {vc : Value} {B0 : Nat} (hok : CelsOk l) (hv : l ≠ [] → sb vc < B0) : ∀ (f : Nat) {i : Nat} {way : Bytes} {vw : Value} {lo hi : Int} {H : Heap}, 0 < f → l.length < i + f → i ≤ l.length → CR B0 H vc l → B0 ≤ H.size → Own 1 H vw way.length (bvs way) → (0 < sc vw → B0 ≤ sb vw) →
    Ret Tryd.prog 56 [.agg [vc].toArray, .int .i64 i, vw, .int .i64 lo, .int .i64 hi] H (PrgT way vw (rdT f l i way lo hi) H) := by
  intro f
  induction f with
  | zero =>
    intro i way vw lo hi H hf0
    omega
  | succ f ih =>
    intro i way vw lo hi H hf0 hf hil hC hB hW hwb
    have sC := hC.sl
    have sW := hW.sl
    have cW := sW.cap
    have hll := hok.len
    have hwlt : 0 < sc vw → sb vw < H.size := fun hc => hW.lt hc
    obtain ⟨R, hR⟩ : ∃ R, R = rdT (f + 1) l i way lo hi := ⟨_, rfl⟩
    rw [← hR]
    refine ret_of Tryd.func56 rfl rfl rfl rfl ?_
    intro w0
    refine zrun ?_ ?_
    refine x_box (cs := [vc]) rfl rfl rfl trivial ?_
    intro H1 hn1
    refine ⟨trivial, ?_⟩
    refine x_alloc rfl rfl trivial ?_
    intro H2 hn2
    refine ⟨trivial, ?_⟩
    have hs1 := hn1.size
    have hs2 := hn2.size
    have hk2 := hn2.old hn1.keep
    have hC2 := CR.keepN hC hk2
    have hBr2 : Blk H2 H.size [vc] := (hn1.blk : Blk H1 H.size [vc]).keep hn2.keep (fun h => h)
    have hBo2 : Blk H2 H1.size zP := hn2.blk
    refine zrun ?_ ?_
    refine x_loads (cs := [vc]) rfl rfl rfl (hpmt (hBr2.cels 0 1 (by simp))) rfl trivial ?_
    refine zrun ?_ ?_
    refine x_call rfl rfl rfl trivial (shp_cell (i := i) hC2 (by omega)) ?_
    rintro _ H3 ⟨hk3, y, c, rfl, hy3, hcd⟩
    refine ⟨trivial, ?_⟩
    have hs3 := hk3.size
    refine zrun ?_ ?_
    refine x_alloc rfl rfl trivial ?_
    intro H4 hn4
    refine ⟨trivial, ?_⟩
    have hs4 := hn4.size
    refine x_stores rfl rfl rfl rfl (CelR.oneC hy3) hn4.blk (by simp [encC]) trivial ?_
    intro H5 hBc5 hk5 hs5
    refine ⟨trivial, ?_⟩
    have hk35 : Keep Non H3 H5 := keep_at hn4.keep hk5 (Nat.le_refl _)
    have hk25 := hk3.non_trans hk35
    have hk05 := hk2.non_trans hk25
    have hy5 := hy3.keepN hk35
    have hC5 := CR.keepN hC hk05
    have hBr5 := hBr2.keep hk25 (fun h => h)
    have hBo5 := hBo2.keep hk25 (fun h => h)
    have hBc5 : Blk H5 H3.size (encC y) := hBc5
    have D := celD_of hBc5 hy5.1
    have sK := hy5.2.1.1.sl
    have sP := hy5.2.2.1.sl
    have cK := sK.cap
    have cP := sP.cap
    have hs05 := hk05.size
    refine zrunc ?_ ?_
    cases hc : l[i]? with
    | none =>
      have hz : none = R := by rw [hR, rdT_none hc]
      have hW5 := hW.keep (S := Non) hk05 (fun _ h => h)
      refine zrun ?_ ?_
      refine x_build (cs := zP) rfl rfl rfl ocp_nil rfl trivial ?_
      refine x_stores rfl rfl rfl rfl (by simp [zP, oneC, Value.oneCell']) (hBo5) (by simp [zP]) trivial ?_
      intro Hz hBz hkz hsz
      refine ⟨trivial, ?_⟩
      refine zrun ?_ ?_
      exact cw_retc2 rfl rfl rfl rfl (hBz.cels 0 3 (by simp [putL, zP])) ⟨Keep.step (S := fun z => z = sb vw ∧ 0 < sc vw) ((hk05).mono (fun _ _ h => by first | exact h | exact h.elim)) hkz (fun z hz (e : z = _) => by omega), (hW5).keep hkz (fun hc (e : _ = _) => by have := hwlt hc; omega), .slice none 0 0, 0, 0, [], by rw [← hz]; rfl, PoS.nil _ _, Nat.zero_le _, fun x hx => by rw [← hz] at hx; cases hx⟩
    | some d =>
      have hcd' := hcd d hc
      subst hcd'
      have hcm := List.mem_of_getElem? hc
      have hilt := (List.getElem?_eq_some_iff.1 hc).1
      have hkl := hok.key c hcm
      have hml : c.pairs.length ≤ 1000000 := by
        have h1 := manys_take hc
        have h2 := manys_le l (i + 1)
        have h3 : c.many = c.pairs.length + (if c.full then 1 else 0) := rfl
        have h4 := hok.many
        omega
      have hW5 := hW.keep (S := Non) hk05 (fun _ h => h)
      have hb256 := c.byte.toNat_lt
      refine cw_cut (fun e : Bool => [(1, .int .i64 i), (2, vw), (3, .int .i64 lo), (4, .int .i64 hi), (5, ptr H.size 0), (10, ptr H1.size 0), (11, .bool false), (12, ptr H3.size 0), (94, .bool e)]) (fun e H' => H5 = H' ∧ (e = true → ¬ TernC c way lo hi) ∧ (e = false → TernC c way lo hi)) ?_ ?_
      · refine zrun ?_ ?_
        refine x_load rfl rfl (hpmt (D.d0)) rfl trivial ?_
        refine zrun ?_ ?_
        refine x_split 33 rfl (fun g1 => ?_) (fun g1 => ?_) <;> (try simp at g1)
        · refine zrun ?_ ?_
          exact nw_meet true (by repeat (first | exact True.intro | refine ⟨rfl, ?_⟩)) ⟨rfl, (fun _ h => by exact g1 h.kind), (fun e => by cases e)⟩
        · refine zrun ?_ ?_
          refine x_load rfl rfl (hpmt (D.d1)) rfl trivial ?_
          refine zrun ?_ ?_
          refine x_split 40 rfl (fun g2 => ?_) (fun g2 => ?_) <;> (try simp at g2)
          · refine zrun ?_ ?_
            exact nw_meet true (by repeat (first | exact True.intro | refine ⟨rfl, ?_⟩)) ⟨rfl, (fun _ h => by have := h.at_; omega), (fun e => by cases e)⟩
          · refine zrun ?_ ?_
            refine x_load rfl rfl (hpmt (D.d7)) rfl trivial ?_
            refine zrun ?_ ?_
            refine x_load rfl rfl (hpmt (D.d8)) rfl trivial ?_
            refine zrun ?_ ?_
            refine x_split 50 rfl (fun g3 => ?_) (fun g3 => ?_) <;> (try simp at g3)
            · refine zrun ?_ ?_
              exact nw_meet true (by repeat (first | exact True.intro | refine ⟨rfl, ?_⟩)) ⟨rfl, (fun _ h => by rw [h.key, h.pairs] at g3; simp at g3), (fun e => by cases e)⟩
            · refine zrun ?_ ?_
              refine x_split 55 rfl (fun g4 => ?_) (fun g4 => ?_) <;> (try simp at g4)
              · refine zrun ?_ ?_
                exact nw_meet true (by repeat (first | exact True.intro | refine ⟨rfl, ?_⟩)) ⟨rfl, (fun _ h => by have := h.way; omega), (fun e => by cases e)⟩
              · refine zrun ?_ ?_
                refine x_load rfl rfl (hpmt (D.d4)) rfl trivial ?_
                refine zrun ?_ ?_
                refine x_conv_int rfl rfl rfl trivial ?_
                rw [wrap_i64 (by omega) (by omega)]
                refine zrun ?_ ?_
                refine x_split 62 rfl (fun g5 => ?_) (fun g5 => ?_) <;> (try simp at g5)
                · refine zrun ?_ ?_
                  exact nw_meet true (by repeat (first | exact True.intro | refine ⟨rfl, ?_⟩)) ⟨rfl, (fun _ h => by have := h.lo; omega), (fun e => by cases e)⟩
                · refine zrun ?_ ?_
                  refine x_load rfl rfl (hpmt (D.d4)) rfl trivial ?_
                  refine zrun ?_ ?_
                  refine x_conv_int rfl rfl rfl trivial ?_
                  rw [wrap_i64 (by omega) (by omega)]
                  refine zrun ?_ ?_
                  refine x_split 69 rfl (fun g6 => ?_) (fun g6 => ?_) <;> (try simp at g6)
                  · refine zrun ?_ ?_
                    exact nw_meet true (by repeat (first | exact True.intro | refine ⟨rfl, ?_⟩)) ⟨rfl, (fun _ h => by have := h.hi; omega), (fun e => by cases e)⟩
                  · refine zrun ?_ ?_
                    refine x_load rfl rfl (hpmt (D.d3)) rfl trivial ?_
                    refine zrun ?_ ?_
                    refine x_split 74 rfl (fun g7 => ?_) (fun g7 => ?_) <;> (try simp at g7)
                    · refine zrun ?_ ?_
                      exact nw_meet true (by repeat (first | exact True.intro | refine ⟨rfl, ?_⟩)) ⟨rfl, (fun _ h => by have := h.kids.1; omega), (fun e => by cases e)⟩
                    · refine zrun ?_ ?_
                      refine x_load rfl rfl (hpmt (D.d3)) rfl trivial ?_
                      refine zrun ?_ ?_
                      refine x_split 79 rfl (fun g8 => ?_) (fun g8 => ?_) <;> (try simp at g8)
                      · refine zrun ?_ ?_
                        exact nw_meet true (by repeat (first | exact True.intro | refine ⟨rfl, ?_⟩)) ⟨rfl, (fun _ h => by have := h.kids.2; omega), (fun e => by cases e)⟩
                      · have hkb := kids_bits (x := c.kids) (by omega) (by omega)
                        have hk0 : c.key = [] := List.length_eq_zero_iff.1 (by first | omega | exact (by simpa using g3 : _ ∧ _).1 | (simp at g3; simp [g3]))
                        have hp0 : c.pairs = [] := List.length_eq_zero_iff.1 (by first | omega | (simp at g3; simp [g3]))
                        refine zrun ?_ ?_
                        refine x_load rfl rfl (hpmt (D.d5)) rfl trivial ?_
                        refine zrun ?_ ?_
                        refine x_split 83 rfl (fun g9 => ?_) (fun g9 => ?_) <;> (try simp at g9)
                        · refine zrun ?_ ?_
                          refine x_load rfl rfl (hpmt (D.d6)) rfl trivial ?_
                          refine zrun ?_ ?_
                          refine x_split 87 rfl (fun g10 => ?_) (fun g10 => ?_) <;> (try simp at g10)
                          · refine zrun ?_ ?_
                            exact nw_meet true (by repeat (first | exact True.intro | refine ⟨rfl, ?_⟩)) ⟨rfl, (fun _ h => by rcases h.full with h | h <;> simp_all), (fun e => by cases e)⟩
                          · refine zrun ?_ ?_
                            refine x_load rfl rfl (hpmt (D.d3)) rfl trivial ?_
                            refine zrun ?_ ?_
                            rw [hkb.2.1]
                            refine nw_meet _ (by repeat (first | exact True.intro | refine ⟨rfl, ?_⟩)) ⟨rfl, (fun e h => ?_), (fun e => ⟨g1, by omega, by omega, by omega, hk0, hp0, ⟨by omega, by omega⟩, .inr ⟨g10, ?_⟩, by omega⟩)⟩
                            · rcases h.full with h | h
                              · rw [h] at g9; cases g9
                              · simp at e; omega
                            · simp at e; omega
                        · refine zrun ?_ ?_
                          exact nw_meet false (by repeat (first | exact True.intro | refine ⟨rfl, ?_⟩)) ⟨rfl, (fun e => by cases e), (fun e => ⟨g1, by omega, by omega, by omega, hk0, hp0, ⟨by omega, by omega⟩, .inl g9, by omega⟩)⟩
      rintro e _ ⟨rfl, ht, hfl⟩
      cases e with
      | true =>
        have hz : none = R := by rw [hR, rdT_some hc, if_neg (ht rfl)]
        refine zrun ?_ ?_
        refine x_build (cs := zP) rfl rfl rfl ocp_nil rfl trivial ?_
        refine x_stores rfl rfl rfl rfl (by simp [zP, oneC, Value.oneCell']) (hBo5) (by simp [zP]) trivial ?_
        intro Hz hBz hkz hsz
        refine ⟨trivial, ?_⟩
        refine zrun ?_ ?_
        exact cw_retc2 rfl rfl rfl rfl (hBz.cels 0 3 (by simp [putL, zP])) ⟨Keep.step (S := fun z => z = sb vw ∧ 0 < sc vw) ((hk05).mono (fun _ _ h => by first | exact h | exact h.elim)) hkz (fun z hz (e : z = _) => by omega), (hW5).keep hkz (fun hc (e : _ = _) => by have := hwlt hc; omega), .slice none 0 0, 0, 0, [], by rw [← hz]; rfl, PoS.nil _ _, Nat.zero_le _, fun x hx => by rw [← hz] at hx; cases hx⟩
      | false =>
        have hT := hfl rfl
        have hR : R = restT (fun n => rdT f l n way lo c.byte.toNat) (fun n => rdT f l n (way ++ [c.byte]) (-1) 256) (fun n => rdT f l n way c.byte.toNat hi) c (way ++ [c.byte]) 0 ⟨[], i + 1, 0⟩ := by
          rw [hR, rdT_some hc, if_pos hT]
          rfl
        have hkb := kids_bits hT.kids.1 hT.kids.2
        have hwl := hT.way
        refine zrun ?_ ?_
        refine x_build (cs := [.slice none 0 0, .int .i64 (i + 1), .int .i64 1]) rfl rfl rfl (ocp_cons rfl (ocp_cons rfl ocp_nil)) rfl trivial ?_
        refine x_alloc rfl rfl trivial ?_
        intro H6 hn6
        refine ⟨trivial, ?_⟩
        refine x_stores rfl rfl rfl rfl (by simp [oneC, Value.oneCell']) hn6.blk (by simp) trivial ?_
        intro H7 hB147 hk7 hs7
        refine ⟨trivial, ?_⟩
        refine zrun ?_ ?_
        refine x_buildSlice rfl rfl rfl rfl (by omega) (by simp [oneC, Value.oneCell']) rfl trivial ?_
        intro H8 hn8
        refine ⟨trivial, ?_⟩
        have hs6 := hn6.size
        have hs8 := hn8.size
        have hk57 : Keep Non H5 H7 := keep_at hn6.keep hk7 (Nat.le_refl _)
        have hk58 := hn8.old hk57
        have hk08 := hk05.non_trans hk58
        have hBr8 := hBr5.keep hk58 (fun h => h)
        have hBo8 := hBo5.keep hk58 (fun h => h)
        have hBc8 := hBc5.keep hk58 (fun h => h)
        have hy8 := hy5.keepN hk58
        have hW8 := hW.keep (S := Non) hk08 (fun _ h => h)
        have hB148 : Blk H8 H5.size [.slice none 0 0, .int .i64 ((i + 1 : Nat) : Int), .int .i64 (((0 : Nat) : Int) + 1)] := hB147.keep hn8.keep (fun h => h)
        have hB99 : Blk H8 H7.size [.int .i64 1, .int .i64 2, .int .i64 4] := hn8.blk
        have s99 : IsSl (.slice (some ⟨H7.size, 0, none⟩) 3 3) 3 := isSl_some (Nat.le_refl _) (by omega)
        refine zrun ?_ ?_
        refine cw_loop (fun s : Nat × PT × Value => [(1, .int .i64 i), (2, vw), (3, .int .i64 lo), (4, .int .i64 hi), (5, ptr H.size 0), (10, ptr H1.size 0), (11, .bool false), (12, ptr H3.size 0), (14, ptr H5.size 0), (99, .slice (some ⟨H7.size, 0, none⟩) 3 3), (100, .int .i64 3), (101, .int .i64 s.1)]) (fun s H' => s.1 ≤ 3 ∧ R = restT (fun n => rdT f l n way lo c.byte.toNat) (fun n => rdT f l n (way ++ [c.byte]) (-1) 256) (fun n => rdT f l n way c.byte.toNat hi) c (way ++ [c.byte]) s.1 s.2.1 ∧ i < s.2.1.next ∧ s.2.1.next ≤ l.length ∧ s.2.1.deep + i + 1 ≤ s.2.1.next ∧ s.2.1.P.length + 8 * i + 8 ≤ 8 * s.2.1.next + s.1 ∧ Keep (fun z => (z = sb vw ∧ 0 < sc vw) ∨ z = H5.size) H8 H' ∧ Blk H' H5.size [s.2.2, .int .i64 s.2.1.next, .int .i64 ((s.2.1.deep : Int) + 1)] ∧ Own 1 H' vw way.length (bvs way) ∧ PoS (fun z => H8.size ≤ z) H' s.2.2 s.2.1.P) (fun s => 3 - s.1) (0, ⟨[], i + 1, 0⟩, .slice none 0 0) (by repeat (first | exact True.intro | refine ⟨rfl, ?_⟩)) ⟨by omega, hR, Nat.lt_succ_self i, hilt, by show 0 + i + 1 ≤ i + 1; omega, by show 0 + 8 * i + 8 ≤ 8 * (i + 1) + 0; omega, Keep.refl _ _, hB148, hW8, PoS.nil _ _⟩ ?_
        clear hR
        rintro ⟨j, r, v⟩ H9 ⟨hj3, hR, pl, pe, pd, pf, hk89, hB14, hW9, hV9⟩
        dsimp only at hj3 hR pl pe pd pf hB14 hV9 ⊢
        have hn : ∀ z, z < H8.size → z ≠ H5.size → H.size ≤ z → ¬ ((z = sb vw ∧ 0 < sc vw) ∨ z = H5.size) := fun z h1 h2 h3 e => e.elim (fun e => by have := hwlt e.2; omega) h2
        have hk09 : Keep (fun z => z = sb vw ∧ 0 < sc vw) H H9 := (hk08.mono (S := Non) (fun _ _ h => h.elim)).step hk89 (fun z hz e => e.elim (fun e => e) (fun e => by omega))
        have hoff0 : ∀ z, z < B0 → ¬ (z = sb vw ∧ 0 < sc vw) := fun z hz e => by have := hwb e.2; omega
        have hC9 : CR B0 H9 vc l := CR.keepS hC hv hk09 hoff0
        have hy9 : CelR (fun z => z < B0) H9 y c := hy8.step hk89 (fun z hz e => e.elim (hoff0 z hz) (fun e => by omega)) (fun _ h => h)
        have hBr9 := hBr8.keep hk89 (hn _ (by omega) (by omega) (by omega))
        have hBo9 := hBo8.keep hk89 (hn _ (by omega) (by omega) (by omega))
        have hBc9 := hBc8.keep hk89 (hn _ (by omega) (by omega) (by omega))
        have hB999 := hB99.keep hk89 (hn _ (by omega) (by omega) (by omega))
        have D9 := celD_of hBc9 hy9.1
        have hs89 := hk89.size
        have hs08 := hk08.size
        have hov := isSl_oneC hV9.ps.sl
        have hV9s : PoS (fun z => H8.size ≤ z ∧ z < H9.size) H9 v r.P := hV9.mono (fun z hz hl => ⟨hz, hl⟩)
        have hfv := hV9s.fresh
        have f0 : cel H9 H5.size 0 = some v := by rw [hB14.cel]; rfl
        match j, hj3, hR, pf with
        | 0, hj3, hR, pf =>
          have e99 : cel H9 H7.size 0 = some (.int .i64 1) := by rw [hB999.cel]; rfl
          refine zrun ?_ ?_
          refine x_load rfl rfl (hpmt (e99)) rfl trivial ?_
          refine zrun ?_ ?_
          refine x_load rfl rfl (hpmt (D9.d4)) rfl trivial ?_
          refine zrun ?_ ?_
          refine x_buildSlice rfl rfl rfl rfl (by omega) (by simp [oneC, Value.oneCell']) rfl trivial ?_
          intro Ha hna
          refine ⟨trivial, ?_⟩
          have hsa := hna.size
          have hWa := hW9.keep (S := Non) hna.keep (fun _ h => h)
          refine zrun ?_ ?_
          refine x_append (by rfl) (by rfl) (by rfl) rfl rfl rfl hWa (isSl_some (Nat.le_refl _) (by omega)) (m := 1) (cx := [kb c.byte]) rfl (hna.blk.cels 0 1 (by simp)) (by simp [oneC, Value.oneCell']) (by omega) rfl trivial ?_
          intro v17 Hb hap
          refine ⟨trivial, ?_⟩
          have hsb := hap.keep.size
          have hWb := hap.first hWa
          have hKb : Own 1 Hb v17 (way.length + 1) (bvs way ++ [kb c.byte]) := hap.own
          have hplace : (sb v17 = sb vw ∧ so v17 = so vw ∧ sc v17 = sc vw ∧ 0 < sc vw) ∨ (sb v17 = Ha.size ∧ Ha.size < Hb.size) := by
            rcases hap.place with ⟨e1, e2, e3, e4, _⟩ | ⟨e1, _, _, _, e5⟩
            · exact .inl ⟨e1, e2, e3, by omega⟩
            · exact .inr ⟨e1, by omega⟩
          have hk9b : Keep (fun z => z = sb vw ∧ 0 < sc vw) H9 Hb := (hna.keep.mono (S := Non) (fun _ _ h => h.elim)).step hap.keep (fun z hz e => ⟨e.1, by have := e.2; omega⟩)
          have hnb : ∀ z, H.size ≤ z → ¬ (z = sb vw ∧ 0 < sc vw) := fun z h1 e => by have := hwlt e.2; omega
          have hBcb := hBc9.keep hk9b (hnb _ (by omega))
          have hB14b := hB14.keep hk9b (hnb _ (by omega))
          have Db := celD_of hBcb hy9.1
          have hVb : PoS (fun z => H8.size ≤ z ∧ z < H9.size) Hb v r.P := hV9s.keep hk9b (fun z hz => hnb z (by omega))
          have hyb : CelR (fun z => z < B0) Hb y c := hy9.step hk9b (fun z hz => hoff0 z hz) (fun _ h => h)
          refine zrun ?_ ?_
          have hR : R = (lowT (fun n => rdT f l n way lo c.byte.toNat) c r).bind (restT (fun n => rdT f l n way lo c.byte.toNat) (fun n => rdT f l n (way ++ [c.byte]) (-1) 256) (fun n => rdT f l n way c.byte.toNat hi) c (way ++ [c.byte]) 1) := hR
          obtain ⟨r1, hr1⟩ : ∃ r1, r1 = r := ⟨_, rfl⟩
          rw [← hr1] at hR pl pe pd pf
          obtain ⟨Hg, hHg⟩ : ∃ Hg, Hg = Hb := ⟨_, rfl⟩
          have hkbg : Keep (fun z => (z = sb v ∧ 0 < sc v) ∨ z = H5.size) Hb Hg := by rw [hHg]; exact Keep.refl _ _
          have hB14g : Blk Hg H5.size [v, .int .i64 r1.next, .int .i64 ((r1.deep : Int) + 1)] := by rw [hHg, hr1]; exact hB14b
          have hVg : PoS (fun z => H8.size ≤ z ∧ (z < H9.size ∨ Hb.size ≤ z)) Hg v r1.P := by rw [hHg, hr1]; exact hVb.mono (fun z hz _ => ⟨hz.1, .inl hz.2⟩)
          have pl1 : i < r1.next := pl
          have pe1 : r1.next ≤ l.length := pe
          have pd1 : r1.deep + i + 1 ≤ r1.next := pd
          have pf1 : r1.P.length + 8 * i + 8 ≤ 8 * r1.next + 1 := by omega
          clear pl pe pd pf hr1
          rw [← hHg]
          clear hHg
          have hsg := hkbg.size
          have hnv : ∀ z, z < H8.size → z ≠ H5.size → ¬ ((z = sb v ∧ 0 < sc v) ∨ z = H5.size) := fun z h1 h2 e => e.elim (fun e => by have := (hfv e.2).1; omega) h2
          have hWg : Own 1 Hg vw way.length (bvs way) := hWb.keep hkbg (fun hc => hnv _ (by have := hwlt hc; omega) (by have := hwlt hc; omega))
          have hKg : Own 1 Hg v17 (way.length + 1) (bvs way ++ [kb c.byte]) := hKb.keep hkbg (fun hc => by
            rcases hplace with h | h
            · rw [h.1]; exact hnv _ (by have := hwlt h.2.2.2; omega) (by have := hwlt h.2.2.2; omega)
            · rw [h.1]; exact fun e => e.elim (fun e => by have := (hfv e.2).2; omega) (fun e => by omega))
          have hBcg := hBcb.keep hkbg (hnv _ (by omega) (by omega))
          have hBrg := (hBr9.keep hk9b (hnb _ (by omega))).keep hkbg (hnv _ (by omega) (by omega))
          have hBog := (hBo9.keep hk9b (hnb _ (by omega))).keep hkbg (hnv _ (by omega) (by omega))
          have Dg := celD_of hBcg hy9.1
          have hk8b : Keep (fun z => (z = sb vw ∧ 0 < sc vw) ∨ z = H5.size) H8 Hb := hk89.step hk9b (fun z hz e => .inl e)
          have hk8g : Keep (fun z => (z = sb vw ∧ 0 < sc vw) ∨ z = H5.size) H8 Hg := hk8b.step hkbg (fun z hz e => e.elim (fun e => by have := (hfv e.2).1; omega) (fun e => .inr e))
          have hk0g : Keep (fun z => z = sb vw ∧ 0 < sc vw) H Hg := (hk08.mono (S := Non) (fun _ _ h => h.elim)).step hk8g (fun z hz e => e.elim (fun e => e) (fun e => by omega))
          have hCg : CR B0 Hg vc l := CR.keepS hC hv hk0g hoff0
          have hovg := isSl_oneC hVg.ps.sl
          refine zrun ?_ ?_
          refine x_load rfl rfl (hpmt (Dg.d3)) rfl trivial ?_
          refine zrun ?_ ?_
          rw [hkb.1]
          refine cw_cond rfl (fun hbit => ?_) (fun hbit => ?_) <;> (try simp at hbit)
          · have hR : R = restT (fun n => rdT f l n way lo c.byte.toNat) (fun n => rdT f l n (way ++ [c.byte]) (-1) 256) (fun n => rdT f l n way c.byte.toNat hi) c (way ++ [c.byte]) 1 r1 := by
              have e : lowT (fun n => rdT f l n way lo c.byte.toNat) c r1 = some r1 := if_neg (by omega)
              rw [hR, e]; rfl
            refine zrun ?_ ?_
            exact nw_round (1, r1, v) (by repeat (first | exact True.intro | refine ⟨rfl, ?_⟩)) ⟨by simp only; omega, hR, pl1, pe1, pd1, by simp only; omega, hk8g, hB14g, hWg, hVg.mono (fun z hz _ => hz.1)⟩ (by simp only; omega)
          · have hR : R = (stepT r1 (rdT f l r1.next way lo c.byte.toNat)).bind (restT (fun n => rdT f l n way lo c.byte.toNat) (fun n => rdT f l n (way ++ [c.byte]) (-1) 256) (fun n => rdT f l n way c.byte.toNat hi) c (way ++ [c.byte]) 1) := by
              have e : lowT (fun n => rdT f l n way lo c.byte.toNat) c r1 = stepT r1 (rdT f l r1.next way lo c.byte.toNat) := if_pos (by omega)
              rw [hR, e]
            refine zrun ?_ ?_
            refine x_build (cs := zP) rfl rfl rfl ocp_nil rfl trivial ?_
            refine x_alloc rfl rfl trivial ?_
            intro Hh hnh
            refine ⟨trivial, ?_⟩
            refine x_stores rfl rfl rfl rfl (by simp [zP, oneC, Value.oneCell']) hnh.blk (by simp [zP]) trivial ?_
            intro Hi hB18 hki hsi
            refine ⟨trivial, ?_⟩
            have hsh := hnh.size
            have hkgi : Keep Non Hg Hi := keep_at hnh.keep hki (Nat.le_refl _)
            have hBri := hBrg.keep hkgi (fun h => h)
            have hBoi := hBog.keep hkgi (fun h => h)
            have hB14i := hB14g.keep hkgi (fun h => h)
            have Di := Dg.keepN hkgi
            have hCi := CR.keepN hCg hkgi
            have hWi := hWg.keep (S := Non) hkgi (fun _ h => h)
            have hKi := hKg.keep (S := Non) hkgi (fun _ h => h)
            have hVi := hVg.keepN hkgi
            have x1 : cel Hi H5.size 1 = some (.int .i64 r1.next) := by rw [hB14i.cel]; rfl
            have hsgi := hkgi.size
            refine zrun ?_ ?_
            refine zrun ?_ ?_
            refine x_loads (cs := [vc]) rfl rfl rfl (hpmt (hBri.cels 0 1 (by simp))) rfl trivial ?_
            refine zrun ?_ ?_
            refine x_load rfl rfl (hpmt (x1)) rfl trivial ?_
            refine zrun ?_ ?_
            refine x_load rfl rfl (hpmt (Di.d4)) rfl trivial ?_
            refine zrun ?_ ?_
            refine x_conv_int rfl rfl rfl trivial ?_
            rw [wrap_i64 (by omega) (by omega)]
            refine zrun ?_ ?_
            refine x_call rfl rfl rfl trivial (ih (i := r1.next) (way := way) (lo := lo) (hi := (c.byte.toNat : Int)) (by omega) (by omega) pe1 hCi (by omega) hWi hwb) ?_
            rintro _ Hj ⟨hkj, hWj, vx, nx, dx, Px, rfl, hVx, hPxl, hxx⟩
            refine ⟨trivial, ?_⟩
            have hkij : Keep (fun z => (z = sb vw ∧ 0 < sc vw) ∨ (z = Ha.size ∧ Ha.size < Hb.size)) Hi Hj := hkj.mono (fun z hz e => .inl e)
            have hgx := @rdT_good f l r1.next way lo c.byte.toNat
            generalize rdT f l r1.next way lo c.byte.toNat = ox at hR hxx hgx ⊢
            have hvx := isSl_oneC hVx.ps.sl
            have hsj := hkij.size
            have hnj : ∀ z, H.size ≤ z → (z = Ha.size → Hb.size ≤ Ha.size) → ¬ ((z = sb vw ∧ 0 < sc vw) ∨ (z = Ha.size ∧ Ha.size < Hb.size)) := fun z h1 h2 e => e.elim (hnb z h1) (fun e => by have := h2 e.1; omega)
            have hB18j := hB18.keep hkij (hnj _ (by omega) (by omega))
            refine zrun ?_ ?_
            refine x_stores rfl rfl rfl rfl (oc_cons hvx (oc_cons rfl (oc_cons rfl oc_nil))) hB18j (by simp [putL, zP]) trivial ?_
            intro Hk hB18k hkk hsk
            refine ⟨trivial, ?_⟩
            have hB18k : Blk Hk Hg.size [vx, .int .i64 nx, .int .i64 dx] := hB18k
            have hkik : Keep (fun z => (z = sb vw ∧ 0 < sc vw) ∨ (z = Ha.size ∧ Ha.size < Hb.size) ∨ z = Hg.size) Hi Hk := (hkij.mono (fun z _ e => e.elim .inl (fun e => .inr (.inl e)))).step hkk (fun z hz e => .inr (.inr e))
            have hnk : ∀ z, H.size ≤ z → (z = Ha.size → Hb.size ≤ Ha.size) → z ≠ Hg.size → ¬ ((z = sb vw ∧ 0 < sc vw) ∨ (z = Ha.size ∧ Ha.size < Hb.size) ∨ z = Hg.size) := fun z h1 h2 h3 e => e.elim (hnb z h1) (fun e => e.elim (fun e => by have := h2 e.1; omega) h3)
            have hB14k := hB14i.keep hkik (hnk _ (by omega) (by omega) (by omega))
            have hBok := hBoi.keep hkik (hnk _ (by omega) (by omega) (by omega))
            have hWk := hWj.keep hkk (fun hc (e : _ = _) => by have := hwlt hc; omega)
            have hVk : PoS (fun z => H8.size ≤ z ∧ (z < H9.size ∨ Hb.size ≤ z) ∧ z < Hg.size) Hk v r1.P := ((hVg.mono (S' := fun z => H8.size ≤ z ∧ (z < H9.size ∨ Hb.size ≤ z) ∧ z < Hg.size) (fun z hz hl => ⟨hz.1, hz.2, hl⟩)).keepN hkgi).keep hkik (fun z hz => hnk z (by omega) (by omega) (by omega))
            have hVxk : PoS (fun z => Hi.size ≤ z) Hk vx Px := hVx.keep hkk (fun z hz (e : z = _) => by omega)
            have hk8i : Keep (fun z => (z = sb vw ∧ 0 < sc vw) ∨ z = H5.size) H8 Hi := hk8g.step hkgi (fun _ _ h => h.elim)
            have hk8k : Keep (fun z => (z = sb vw ∧ 0 < sc vw) ∨ z = H5.size) H8 Hk := hk8i.step hkik (fun z hz e => e.elim .inl (fun e => by omega))
            refine zrun ?_ ?_
            cases ox with
            | none =>
              have hz : none = R := hR.symm
              have hk0k : Keep (fun z => z = sb vw ∧ 0 < sc vw) H Hk := (hk08.mono (S := Non) (fun _ _ h => h.elim)).step hk8k (fun z hz e => e.elim (fun e => e) (fun e => by omega))
              refine zrun ?_ ?_
              refine x_build (cs := zP) rfl rfl rfl ocp_nil rfl trivial ?_
              refine x_stores rfl rfl rfl rfl (by simp [zP, oneC, Value.oneCell']) (hBok) (by simp [zP]) trivial ?_
              intro Hz hBz hkz hsz
              refine ⟨trivial, ?_⟩
              refine zrun ?_ ?_
              exact cw_retc2 rfl rfl rfl rfl (hBz.cels 0 3 (by simp [putL, zP])) ⟨Keep.step (S := fun z => z = sb vw ∧ 0 < sc vw) ((hk0k).mono (fun _ _ h => by first | exact h | exact h.elim)) hkz (fun z hz (e : z = _) => by omega), (hWk).keep hkz (fun hc (e : _ = _) => by have := hwlt hc; omega), .slice none 0 0, 0, 0, [], by rw [← hz]; rfl, PoS.nil _ _, Nat.zero_le _, fun x hx => by rw [← hz] at hx; cases hx⟩
            | some x =>
              obtain ⟨w1, w2, w3⟩ := hxx x rfl
              subst w1 w2 w3
              obtain ⟨hg, hgf⟩ := hgx rfl
              have hgl := hg.lt; have hge := hg.le; have hgd := hg.deep
              obtain ⟨q, hq, ho, hdq⟩ := id hVk.row
              obtain ⟨qx, hqx, hox, hdx⟩ := id hVxk.row
              have sVx := hox.sl
              have a0 : cel Hk H5.size 0 = some v := by rw [hB14k.cel]; rfl
              have a2 : cel Hk H5.size 2 = some (.int .i64 ((r1.deep : Int) + 1)) := by rw [hB14k.cel]; rfl
              have x0 : cel Hk Hg.size 0 = some vx := by rw [hB18k.cel]; rfl
              have x1 : cel Hk Hg.size 1 = some (.int .i64 x.next) := by rw [hB18k.cel]; rfl
              have x2 : cel Hk Hg.size 2 = some (.int .i64 x.deep) := by rw [hB18k.cel]; rfl
              have hfk := hVk.fresh
              have hn7 : ¬ (H5.size = sb v ∧ 0 < sc v) := fun e => by have := (hfk e.2).1; omega
              have hn17 : ¬ (Hg.size = sb v ∧ 0 < sc v) := fun e => by have := (hfk e.2).2.2; omega
              have hmx : max ((r1.deep : Int) + 1) (1 + (x.deep : Int)) = ((max r1.deep x.deep : Nat) : Int) + 1 := by omega
              refine zrunc ?_ ?_
              refine cw_held (fun c => Keep ((fun (c : Nat) (z : Nat) => (z = sb v ∧ 0 < sc v) ∨ (c = 1 ∧ z = H5.size)) c) Hk) ⟨[4, 14, 16, 18], [(1, 0), (3, 1), (6, 1), (8, 0), (10, 1)]⟩ (.op 0 (.op 1 (.op 2 (.op 3 (.op 5 (.op 6 (.op 7 (.op 8 (.op 9 (.op 10 (.op 11 (.op 12 (.op 4 (.op 13 (.op 14 (.op 15 (.op 16 (.op 17 (.op 18 (.nil)))))))))))))))))))) panicOk_body mixed (by kernel_rfl) ?_
              refine zhrun ?_ ?_
              refine x_load rfl rfl (hpmc rfl (fun _ hk => hk.cel a0 (fun e => e.elim hn7 (fun e => by cases e.1)))) rfl (okq_load rfl rfl (Keep.refl _ _)) ?_
              refine zhrun ?_ ?_
              refine x_load rfl rfl (hpmc rfl (fun _ hk => hk.cel x0 (fun e => e.elim hn17 (fun e => by have := e.2; omega)))) rfl (okq_load rfl rfl (Keep.refl _ _)) ?_
              refine zhrun ?_ ?_
              refine x_load rfl rfl (hpmc rfl (fun _ hk => hk.cel x1 (fun e => e.elim hn17 (fun e => by have := e.2; omega)))) rfl (okq_load rfl rfl (Keep.refl _ _)) ?_
              refine zhrun ?_ ?_
              refine x_load rfl rfl (hpmc rfl (fun _ hk => hk.cel a2 (fun e => e.elim hn7 (fun e => by cases e.1)))) rfl (okq_load rfl rfl (Keep.refl _ _)) ?_
              refine zhrun ?_ ?_
              refine x_load rfl rfl (hpmc rfl (fun _ hk => hk.cel x2 (fun e => e.elim hn17 (fun e => by have := e.2; omega)))) rfl (okq_load rfl rfl (Keep.refl _ _)) ?_
              refine zhrun ?_ ?_
              refine x_max rfl rfl rfl rfl (okq_reg rfl rfl) ?_
              rw [hmx]
              refine x_append (by rfl) (by rfl) (by rfl) rfl rfl rfl ho sVx (by rw [pcs_length, hqx.len]) hox.cels (pcs_oneC hqx (fun v b h => isSl_oneC h.1.sl)) (by omega) rfl ⟨rfl, rfl⟩ ?_
              intro v11 Hl hapx
              refine ⟨okm_keepC hapx.keep (fun c z hz e => .inl ⟨e.1, by have := e.2; omega⟩), ?_⟩
              have hsl := hapx.keep.size
              have hVl : PoS (fun z => H8.size ≤ z) Hl v11 (r1.P ++ x.P) := PoS.app (S1 := fun z => H8.size ≤ z ∧ (z < H9.size ∨ Hb.size ≤ z) ∧ z < Hg.size) (S2 := fun z => Hi.size ≤ z) hq ho hdq hfk (hqx.mono fun _ _ hb => ⟨hb.1, fun hc => (hb.2 hc).1⟩) hdx (fun z h1 h2 => by have := h1.2.2; omega) (fun z h => h.1) (fun z h => by have := h; omega) (by show H8.size ≤ Hk.size; omega) hapx
              have hovl := isSl_oneC hVl.ps.sl
              have hk8l : Keep (fun z => (z = sb vw ∧ 0 < sc vw) ∨ z = H5.size) H8 Hl := hk8k.step hapx.keep (fun z hz e => by have := (hfk (by have := e.2; omega)).1; have := e.1; omega)
              have hB14l := hB14k.keep hapx.keep (fun e => hn7 ⟨e.1, by have := e.2; omega⟩)
              have hWl := hWk.keep hapx.keep (fun hc e => by have := hwlt hc; have := (hfk (by have := e.2; omega)).1; have := e.1; omega)
              refine zhrun ?_ ?_
              refine x_store rfl rfl rfl hovl hB14l (by simp) ⟨rfl, rfl⟩ ?_
              intro Hm hBm hkmx hsm
              refine ⟨okm_one hkmx (by kernel_rfl) rfl (fun z hz e => .inr ⟨rfl, e⟩), ?_⟩
              refine zhrun ?_ ?_
              refine x_store rfl rfl rfl rfl hBm (by simp) ⟨rfl, rfl⟩ ?_
              intro Hn hBn hknx hsn
              refine ⟨okm_one hknx (by kernel_rfl) rfl (fun z hz e => .inr ⟨rfl, e⟩), ?_⟩
              refine zhrun ?_ ?_
              refine x_store rfl rfl rfl rfl hBn (by simp) ⟨rfl, rfl⟩ ?_
              intro Ho hBo hkox hso
              refine ⟨okm_one hkox (by kernel_rfl) rfl (fun z hz e => .inr ⟨rfl, e⟩), ?_⟩
              have hklo : Keep (· = H5.size) Hl Ho := (hkmx.step hknx (fun _ _ h => h)).step hkox (fun _ _ h => h)
              refine zhrun ?_ ?_
              refine zrun ?_ ?_
              refine nw_round (1, ⟨r1.P ++ x.P, x.next, max r1.deep x.deep⟩, v11) (by repeat (first | exact True.intro | refine ⟨rfl, ?_⟩)) ⟨by simp only; omega, hR, by simp only; omega, hge, by simp only; omega, by simp only [List.length_append]; omega, hk8l.step hklo (fun z hz e => .inr e), hBo, hWl.keep hklo (fun hc (e : _ = _) => by have := hwlt hc; omega), hVl.keep hklo (fun z hz (e : z = _) => by omega)⟩ (by simp only; omega)
        | 1, hj3, hR, pf =>
          have e99 : cel H9 H7.size 1 = some (.int .i64 2) := by rw [hB999.cel]; rfl
          refine zrun ?_ ?_
          refine x_load rfl rfl (hpmt (e99)) rfl trivial ?_
          refine zrun ?_ ?_
          refine x_load rfl rfl (hpmt (D9.d4)) rfl trivial ?_
          refine zrun ?_ ?_
          refine x_buildSlice rfl rfl rfl rfl (by omega) (by simp [oneC, Value.oneCell']) rfl trivial ?_
          intro Ha hna
          refine ⟨trivial, ?_⟩
          have hsa := hna.size
          have hWa := hW9.keep (S := Non) hna.keep (fun _ h => h)
          refine zrun ?_ ?_
          refine x_append (by rfl) (by rfl) (by rfl) rfl rfl rfl hWa (isSl_some (Nat.le_refl _) (by omega)) (m := 1) (cx := [kb c.byte]) rfl (hna.blk.cels 0 1 (by simp)) (by simp [oneC, Value.oneCell']) (by omega) rfl trivial ?_
          intro v17 Hb hap
          refine ⟨trivial, ?_⟩
          have hsb := hap.keep.size
          have hWb := hap.first hWa
          have hKb : Own 1 Hb v17 (way.length + 1) (bvs way ++ [kb c.byte]) := hap.own
          have hplace : (sb v17 = sb vw ∧ so v17 = so vw ∧ sc v17 = sc vw ∧ 0 < sc vw) ∨ (sb v17 = Ha.size ∧ Ha.size < Hb.size) := by
            rcases hap.place with ⟨e1, e2, e3, e4, _⟩ | ⟨e1, _, _, _, e5⟩
            · exact .inl ⟨e1, e2, e3, by omega⟩
            · exact .inr ⟨e1, by omega⟩
          have hk9b : Keep (fun z => z = sb vw ∧ 0 < sc vw) H9 Hb := (hna.keep.mono (S := Non) (fun _ _ h => h.elim)).step hap.keep (fun z hz e => ⟨e.1, by have := e.2; omega⟩)
          have hnb : ∀ z, H.size ≤ z → ¬ (z = sb vw ∧ 0 < sc vw) := fun z h1 e => by have := hwlt e.2; omega
          have hBcb := hBc9.keep hk9b (hnb _ (by omega))
          have hB14b := hB14.keep hk9b (hnb _ (by omega))
          have Db := celD_of hBcb hy9.1
          have hVb : PoS (fun z => H8.size ≤ z ∧ z < H9.size) Hb v r.P := hV9s.keep hk9b (fun z hz => hnb z (by omega))
          have hyb : CelR (fun z => z < B0) Hb y c := hy9.step hk9b (fun z hz => hoff0 z hz) (fun _ h => h)
          refine zrun ?_ ?_
          refine x_load rfl rfl (hpmt (Db.d5)) rfl trivial ?_
          refine zrun ?_ ?_
          obtain ⟨r1, hr1⟩ : ∃ r1, r1 = ownT c (way ++ [c.byte]) r := ⟨_, rfl⟩
          have hn1 : r1.next = r.next ∧ r1.deep = r.deep ∧ r1.P.length ≤ r.P.length + 1 := by rw [hr1]; unfold ownT; cases c.full <;> simp
          refine cw_cut (fun v' : Value => [(1, .int .i64 i), (2, vw), (3, .int .i64 lo), (4, .int .i64 hi), (5, ptr H.size 0), (10, ptr H1.size 0), (11, .bool false), (12, ptr H3.size 0), (14, ptr H5.size 0), (16, .int .i64 2), (17, v17), (99, .slice (some ⟨H7.size, 0, none⟩) 3 3), (100, .int .i64 3), (101, .int .i64 ((1 : Nat) : Int))]) (fun v' H' => Keep (fun z => (z = sb v ∧ 0 < sc v) ∨ z = H5.size) Hb H' ∧ Blk H' H5.size [v', .int .i64 r1.next, .int .i64 ((r1.deep : Int) + 1)] ∧ PoS (fun z => H8.size ≤ z ∧ (z < H9.size ∨ Hb.size ≤ z)) H' v' r1.P) ?_ ?_
          · refine cw_cond rfl (fun hfull => ?_) (fun hfull => ?_) <;> (try simp at hfull)
            · have f0b : cel Hb H5.size 0 = some v := by rw [hB14b.cel]; rfl
              have hr1P : r1.P = r.P ++ [(way ++ [c.byte], c.val)] := by rw [hr1]; unfold ownT; rw [hfull]; rfl
              obtain ⟨q, hq, ho, hdq⟩ := id hVb.row
              have hfb := hVb.fresh
              have hkr := Keep.refl (fun z => z = sb v ∧ 0 < sc v) Hb
              have hn14 : ¬ (H5.size = sb v ∧ 0 < sc v) := fun e => by have := (hfb e.2).1; omega
              have hn12 : ¬ (H3.size = sb v ∧ 0 < sc v) := fun e => by have := (hfb e.2).1; omega
              have hKB : Bs Hb v17 (way ++ [c.byte]) := (show Own 1 Hb v17 (way ++ [c.byte]).length (bvs (way ++ [c.byte])) by rw [bvs_append, List.length_append]; exact hKb).bs
              refine zrunc ?_ ?_
              refine cw_held (fun _ => Keep (fun z => z = sb v ∧ 0 < sc v) Hb) ⟨[4, 5, 6, 8], [(1, 0), (2, 0)]⟩ (.op 0 (.op 1 (.op 2 (.op 3 (.op 4 (.op 5 (.op 6 (.op 7 (.op 8 (.nil)))))))))) panicOk_body mixed (by kernel_rfl) ?_
              refine zhrun ?_ ?_
              refine x_load rfl rfl (hpmk rfl (fun _ hk => hk.cel f0b hn14)) rfl (okq_load rfl rfl (by assumption)) ?_
              refine zhrun ?_ ?_
              refine x_loads (cs := encC y) rfl rfl rfl (hpmk rfl (fun _ hk => (hBcb.cels 0 9 (by simp [encC])).keep hk (fun _ => hn12))) rfl (okq_load rfl rfl (by assumption)) ?_
              refine zhrun ?_ ?_
              refine x_call rfl rfl rfl ⟨rfl, rfl⟩ (shp_own hyb hKB (by simp; omega)) ?_
              rintro _ Hc ⟨hkc, kk, rfl, hOc, hfc⟩
              refine ⟨okm_keep hkc (fun _ _ h => h.elim), ?_⟩
              have hovk := isSl_oneC hOc.sl
              have hsc := hkc.size
              refine zhrun ?_ ?_
              refine x_buildSliceS1 (by rfl) rfl rfl (by omega) (by rfl) rfl ⟨rfl, rfl⟩ ?_
              intro Hd hnd
              refine ⟨okm_keep hnd.keep (fun _ _ h => h.elim), ?_⟩
              have hsd := hnd.size
              have hkbd : Keep Non Hb Hd := hnd.old hkc
              refine zhrun ?_ ?_
              refine x_append (by rfl) (by rfl) (by rfl) rfl rfl rfl (ho.keep (S := Non) hkbd (fun _ h => h)) (isSl_some (Nat.le_refl _) (by omega)) (m := 1) (cx := [kk, .int .u64 c.val]) rfl (hnd.blk.cels 0 2 (by simp)) (two_oneC' hovk) (by omega) rfl ⟨rfl, rfl⟩ ?_
              intro v13 He hap2
              refine ⟨okm_keep hap2.keep (fun z hz e => ⟨e.1, by have := e.2; omega⟩), ?_⟩
              have hVe : PoS (fun z => H8.size ≤ z ∧ (z < H9.size ∨ Hb.size ≤ z)) He v13 (r.P ++ [(way ++ [c.byte], c.val)]) := PoS.app (S1 := fun z => H8.size ≤ z ∧ z < H9.size) (S2 := fun z => Hb.size ≤ z) (q := q) (qx := [(kk, c.val)]) (lx := [(way ++ [c.byte], c.val)]) (hq.mono fun _ _ hb => ⟨hb.1.keep hkbd (fun _ h => h), hb.2⟩) (ho.keep (S := Non) hkbd (fun _ h => h)) hdq hfb (Pk.own1 (p := (way ++ [c.byte], c.val)) (hOc.keep hnd.keep (fun _ h => h)) (fun hc => hfc hc)) (Dis.one _) (fun z h1 h2 => by have := h1.2; omega) (fun z h => ⟨h.1, .inl h.2⟩) (fun z h => ⟨by have := h; omega, .inr h⟩) ⟨by omega, .inr (by omega)⟩ hap2
              have hov13 := isSl_oneC hVe.ps.sl
              have hse := hap2.keep.size
              have hB14e := (hB14b.keep hkbd (fun h => h)).keep hap2.keep (fun e => hn14 ⟨e.1, by have := e.2; omega⟩)
              have hkbe : Keep (fun z => (z = sb v ∧ 0 < sc v) ∨ z = H5.size) Hb He := (hkbd.mono (S := Non) (fun _ _ h => h.elim)).step hap2.keep (fun z hz e => .inl ⟨e.1, by have := e.2; omega⟩)
              refine zhrun ?_ ?_
              refine x_store rfl rfl rfl hov13 hB14e (by simp) ⟨rfl, rfl⟩ ?_
              intro Hf hBf hkf hsf
              refine ⟨okm_free (fun c => by cases c <;> kernel_rfl), ?_⟩
              refine zhrun ?_ ?_
              refine zrun ?_ ?_
              refine nw_meet v13 (by repeat (first | exact True.intro | refine ⟨rfl, ?_⟩)) ⟨hkbe.step hkf (fun z hz e => .inr e), ?_, by rw [hr1P]; exact hVe.keep hkf (fun z hz (e : z = _) => by omega)⟩
              rw [hn1.1, hn1.2.1]; exact hBf
            · have hr1P : r1 = r := by rw [hr1]; unfold ownT; rw [hfull]; rfl
              refine zrun ?_ ?_
              exact nw_meet v (by repeat (first | exact True.intro | refine ⟨rfl, ?_⟩)) ⟨Keep.refl _ _, by rw [hr1P]; exact hB14b, by rw [hr1P]; exact hVb.mono (fun z hz _ => ⟨hz.1, .inl hz.2⟩)⟩
          rintro v' Hg ⟨hkbg, hB14g, hVg⟩
          have hR : R = (midT (fun n => rdT f l n (way ++ [c.byte]) (-1) 256) c r1).bind (restT (fun n => rdT f l n way lo c.byte.toNat) (fun n => rdT f l n (way ++ [c.byte]) (-1) 256) (fun n => rdT f l n way c.byte.toNat hi) c (way ++ [c.byte]) 2) := by rw [hR, hr1]; rfl
          obtain ⟨hn11, hn12, hn13⟩ := hn1
          have pl1 : i < r1.next := by omega
          have pe1 : r1.next ≤ l.length := by omega
          have pd1 : r1.deep + i + 1 ≤ r1.next := by omega
          have pf1 : r1.P.length + 8 * i + 8 ≤ 8 * r1.next + 2 := by omega
          clear pl pe pd pf hn11 hn12 hn13
          have hsg := hkbg.size
          have hnv : ∀ z, z < H8.size → z ≠ H5.size → ¬ ((z = sb v ∧ 0 < sc v) ∨ z = H5.size) := fun z h1 h2 e => e.elim (fun e => by have := (hfv e.2).1; omega) h2
          have hWg : Own 1 Hg vw way.length (bvs way) := hWb.keep hkbg (fun hc => hnv _ (by have := hwlt hc; omega) (by have := hwlt hc; omega))
          have hKg : Own 1 Hg v17 (way.length + 1) (bvs way ++ [kb c.byte]) := hKb.keep hkbg (fun hc => by
            rcases hplace with h | h
            · rw [h.1]; exact hnv _ (by have := hwlt h.2.2.2; omega) (by have := hwlt h.2.2.2; omega)
            · rw [h.1]; exact fun e => e.elim (fun e => by have := (hfv e.2).2; omega) (fun e => by omega))
          have hBcg := hBcb.keep hkbg (hnv _ (by omega) (by omega))
          have hBrg := (hBr9.keep hk9b (hnb _ (by omega))).keep hkbg (hnv _ (by omega) (by omega))
          have hBog := (hBo9.keep hk9b (hnb _ (by omega))).keep hkbg (hnv _ (by omega) (by omega))
          have Dg := celD_of hBcg hy9.1
          have hk8b : Keep (fun z => (z = sb vw ∧ 0 < sc vw) ∨ z = H5.size) H8 Hb := hk89.step hk9b (fun z hz e => .inl e)
          have hk8g : Keep (fun z => (z = sb vw ∧ 0 < sc vw) ∨ z = H5.size) H8 Hg := hk8b.step hkbg (fun z hz e => e.elim (fun e => by have := (hfv e.2).1; omega) (fun e => .inr e))
          have hk0g : Keep (fun z => z = sb vw ∧ 0 < sc vw) H Hg := (hk08.mono (S := Non) (fun _ _ h => h.elim)).step hk8g (fun z hz e => e.elim (fun e => e) (fun e => by omega))
          have hCg : CR B0 Hg vc l := CR.keepS hC hv hk0g hoff0
          have hovg := isSl_oneC hVg.ps.sl
          refine zrun ?_ ?_
          refine x_load rfl rfl (hpmt (Dg.d3)) rfl trivial ?_
          refine zrun ?_ ?_
          rw [hkb.2.1]
          refine cw_cond rfl (fun hbit => ?_) (fun hbit => ?_) <;> (try simp at hbit)
          · have hR : R = restT (fun n => rdT f l n way lo c.byte.toNat) (fun n => rdT f l n (way ++ [c.byte]) (-1) 256) (fun n => rdT f l n way c.byte.toNat hi) c (way ++ [c.byte]) 2 r1 := by
              have e : midT (fun n => rdT f l n (way ++ [c.byte]) (-1) 256) c r1 = some r1 := if_neg (by omega)
              rw [hR, e]; rfl
            refine zrun ?_ ?_
            exact nw_round (2, r1, v') (by repeat (first | exact True.intro | refine ⟨rfl, ?_⟩)) ⟨by simp only; omega, hR, pl1, pe1, pd1, by simp only; omega, hk8g, hB14g, hWg, hVg.mono (fun z hz _ => hz.1)⟩ (by simp only; omega)
          · have hR : R = (stepT r1 (rdT f l r1.next (way ++ [c.byte]) (-1) 256)).bind (restT (fun n => rdT f l n way lo c.byte.toNat) (fun n => rdT f l n (way ++ [c.byte]) (-1) 256) (fun n => rdT f l n way c.byte.toNat hi) c (way ++ [c.byte]) 2) := by
              have e : midT (fun n => rdT f l n (way ++ [c.byte]) (-1) 256) c r1 = stepT r1 (rdT f l r1.next (way ++ [c.byte]) (-1) 256) := if_pos (by omega)
              rw [hR, e]
            refine zrun ?_ ?_
            refine x_build (cs := zP) rfl rfl rfl ocp_nil rfl trivial ?_
            refine x_alloc rfl rfl trivial ?_
            intro Hh hnh
            refine ⟨trivial, ?_⟩
            refine x_stores rfl rfl rfl rfl (by simp [zP, oneC, Value.oneCell']) hnh.blk (by simp [zP]) trivial ?_
            intro Hi hB18 hki hsi
            refine ⟨trivial, ?_⟩
            have hsh := hnh.size
            have hkgi : Keep Non Hg Hi := keep_at hnh.keep hki (Nat.le_refl _)
            have hBri := hBrg.keep hkgi (fun h => h)
            have hBoi := hBog.keep hkgi (fun h => h)
            have hB14i := hB14g.keep hkgi (fun h => h)
            have Di := Dg.keepN hkgi
            have hCi := CR.keepN hCg hkgi
            have hWi := hWg.keep (S := Non) hkgi (fun _ h => h)
            have hKi := hKg.keep (S := Non) hkgi (fun _ h => h)
            have hVi := hVg.keepN hkgi
            have x1 : cel Hi H5.size 1 = some (.int .i64 r1.next) := by rw [hB14i.cel]; rfl
            have hsgi := hkgi.size
            refine zrun ?_ ?_
            refine zrun ?_ ?_
            refine x_loads (cs := [vc]) rfl rfl rfl (hpmt (hBri.cels 0 1 (by simp))) rfl trivial ?_
            refine zrun ?_ ?_
            refine x_load rfl rfl (hpmt (x1)) rfl trivial ?_
            refine zrun ?_ ?_
            have hKi' : Own 1 Hi v17 (way ++ [c.byte]).length (bvs (way ++ [c.byte])) := by rw [bvs_append, List.length_append]; exact hKi
            have hv17 : 0 < sc v17 → B0 ≤ sb v17 := fun hc => by
              rcases hplace with h | h
              · rw [h.1]; exact hwb h.2.2.2
              · omega
            refine x_call rfl rfl rfl trivial (ih (i := r1.next) (way := way ++ [c.byte]) (lo := -1) (hi := 256) (by omega) (by omega) pe1 hCi (by omega) hKi' hv17) ?_
            rintro _ Hj ⟨hkj, hKj, vx, nx, dx, Px, rfl, hVx, hPxl, hxx⟩
            refine ⟨trivial, ?_⟩
            have hkij : Keep (fun z => (z = sb vw ∧ 0 < sc vw) ∨ (z = Ha.size ∧ Ha.size < Hb.size)) Hi Hj := hkj.mono (fun z hz e => by
              rcases hplace with h | h
              · exact .inl ⟨by rw [e.1, h.1], h.2.2.2⟩
              · exact .inr ⟨by rw [e.1, h.1], h.2⟩)
            have hWj : Own 1 Hj vw way.length (bvs way) := by
              rcases hplace with h | h
              · refine Own.first (k := v17) (m := 1) (cx := [kb c.byte]) ?_ sW (by rw [bvs_length, Nat.mul_one]) (fun _ => ⟨h.1.symm, h.2.1.symm, h.2.2.1.symm⟩)
                have := hKj; rw [bvs_append, List.length_append] at this; exact this
              · exact hWi.keep hkj (fun hc e => by have := hwlt hc; have := e.1; omega)
            have hgx := @rdT_good f l r1.next (way ++ [c.byte]) (-1) 256
            generalize rdT f l r1.next (way ++ [c.byte]) (-1) 256 = ox at hR hxx hgx ⊢
            have hvx := isSl_oneC hVx.ps.sl
            have hsj := hkij.size
            have hnj : ∀ z, H.size ≤ z → (z = Ha.size → Hb.size ≤ Ha.size) → ¬ ((z = sb vw ∧ 0 < sc vw) ∨ (z = Ha.size ∧ Ha.size < Hb.size)) := fun z h1 h2 e => e.elim (hnb z h1) (fun e => by have := h2 e.1; omega)
            have hB18j := hB18.keep hkij (hnj _ (by omega) (by omega))
            refine zrun ?_ ?_
            refine x_stores rfl rfl rfl rfl (oc_cons hvx (oc_cons rfl (oc_cons rfl oc_nil))) hB18j (by simp [putL, zP]) trivial ?_
            intro Hk hB18k hkk hsk
            refine ⟨trivial, ?_⟩
            have hB18k : Blk Hk Hg.size [vx, .int .i64 nx, .int .i64 dx] := hB18k
            have hkik : Keep (fun z => (z = sb vw ∧ 0 < sc vw) ∨ (z = Ha.size ∧ Ha.size < Hb.size) ∨ z = Hg.size) Hi Hk := (hkij.mono (fun z _ e => e.elim .inl (fun e => .inr (.inl e)))).step hkk (fun z hz e => .inr (.inr e))
            have hnk : ∀ z, H.size ≤ z → (z = Ha.size → Hb.size ≤ Ha.size) → z ≠ Hg.size → ¬ ((z = sb vw ∧ 0 < sc vw) ∨ (z = Ha.size ∧ Ha.size < Hb.size) ∨ z = Hg.size) := fun z h1 h2 h3 e => e.elim (hnb z h1) (fun e => e.elim (fun e => by have := h2 e.1; omega) h3)
            have hB14k := hB14i.keep hkik (hnk _ (by omega) (by omega) (by omega))
            have hBok := hBoi.keep hkik (hnk _ (by omega) (by omega) (by omega))
            have hWk := hWj.keep hkk (fun hc (e : _ = _) => by have := hwlt hc; omega)
            have hVk : PoS (fun z => H8.size ≤ z ∧ (z < H9.size ∨ Hb.size ≤ z) ∧ z < Hg.size) Hk v' r1.P := ((hVg.mono (S' := fun z => H8.size ≤ z ∧ (z < H9.size ∨ Hb.size ≤ z) ∧ z < Hg.size) (fun z hz hl => ⟨hz.1, hz.2, hl⟩)).keepN hkgi).keep hkik (fun z hz => hnk z (by omega) (by omega) (by omega))
            have hVxk : PoS (fun z => Hi.size ≤ z) Hk vx Px := hVx.keep hkk (fun z hz (e : z = _) => by omega)
            have hk8i : Keep (fun z => (z = sb vw ∧ 0 < sc vw) ∨ z = H5.size) H8 Hi := hk8g.step hkgi (fun _ _ h => h.elim)
            have hk8k : Keep (fun z => (z = sb vw ∧ 0 < sc vw) ∨ z = H5.size) H8 Hk := hk8i.step hkik (fun z hz e => e.elim .inl (fun e => by omega))
            refine zrun ?_ ?_
            cases ox with
            | none =>
              have hz : none = R := hR.symm
              have hk0k : Keep (fun z => z = sb vw ∧ 0 < sc vw) H Hk := (hk08.mono (S := Non) (fun _ _ h => h.elim)).step hk8k (fun z hz e => e.elim (fun e => e) (fun e => by omega))
              refine zrun ?_ ?_
              refine x_build (cs := zP) rfl rfl rfl ocp_nil rfl trivial ?_
              refine x_stores rfl rfl rfl rfl (by simp [zP, oneC, Value.oneCell']) (hBok) (by simp [zP]) trivial ?_
              intro Hz hBz hkz hsz
              refine ⟨trivial, ?_⟩
              refine zrun ?_ ?_
              exact cw_retc2 rfl rfl rfl rfl (hBz.cels 0 3 (by simp [putL, zP])) ⟨Keep.step (S := fun z => z = sb vw ∧ 0 < sc vw) ((hk0k).mono (fun _ _ h => by first | exact h | exact h.elim)) hkz (fun z hz (e : z = _) => by omega), (hWk).keep hkz (fun hc (e : _ = _) => by have := hwlt hc; omega), .slice none 0 0, 0, 0, [], by rw [← hz]; rfl, PoS.nil _ _, Nat.zero_le _, fun x hx => by rw [← hz] at hx; cases hx⟩
            | some x =>
              obtain ⟨w1, w2, w3⟩ := hxx x rfl
              subst w1 w2 w3
              obtain ⟨hg, hgf⟩ := hgx rfl
              have hgl := hg.lt; have hge := hg.le; have hgd := hg.deep
              obtain ⟨q, hq, ho, hdq⟩ := id hVk.row
              obtain ⟨qx, hqx, hox, hdx⟩ := id hVxk.row
              have sVx := hox.sl
              have a0 : cel Hk H5.size 0 = some v' := by rw [hB14k.cel]; rfl
              have a2 : cel Hk H5.size 2 = some (.int .i64 ((r1.deep : Int) + 1)) := by rw [hB14k.cel]; rfl
              have x0 : cel Hk Hg.size 0 = some vx := by rw [hB18k.cel]; rfl
              have x1 : cel Hk Hg.size 1 = some (.int .i64 x.next) := by rw [hB18k.cel]; rfl
              have x2 : cel Hk Hg.size 2 = some (.int .i64 x.deep) := by rw [hB18k.cel]; rfl
              have hfk := hVk.fresh
              have hn7 : ¬ (H5.size = sb v' ∧ 0 < sc v') := fun e => by have := (hfk e.2).1; omega
              have hn17 : ¬ (Hg.size = sb v' ∧ 0 < sc v') := fun e => by have := (hfk e.2).2.2; omega
              have hmx : max ((r1.deep : Int) + 1) (1 + (x.deep : Int)) = ((max r1.deep x.deep : Nat) : Int) + 1 := by omega
              refine zrunc ?_ ?_
              refine cw_held (fun c => Keep ((fun (c : Nat) (z : Nat) => (z = sb v' ∧ 0 < sc v') ∨ (c = 1 ∧ z = H5.size)) c) Hk) ⟨[4, 14, 16, 18], [(1, 0), (3, 1), (6, 1), (8, 0), (10, 1)]⟩ (.op 0 (.op 1 (.op 2 (.op 3 (.op 5 (.op 6 (.op 7 (.op 8 (.op 9 (.op 10 (.op 11 (.op 12 (.op 4 (.op 13 (.op 14 (.op 15 (.op 16 (.op 17 (.op 18 (.nil)))))))))))))))))))) panicOk_body mixed (by kernel_rfl) ?_
              refine zhrun ?_ ?_
              refine x_load rfl rfl (hpmc rfl (fun _ hk => hk.cel a0 (fun e => e.elim hn7 (fun e => by cases e.1)))) rfl (okq_load rfl rfl (Keep.refl _ _)) ?_
              refine zhrun ?_ ?_
              refine x_load rfl rfl (hpmc rfl (fun _ hk => hk.cel x0 (fun e => e.elim hn17 (fun e => by have := e.2; omega)))) rfl (okq_load rfl rfl (Keep.refl _ _)) ?_
              refine zhrun ?_ ?_
              refine x_load rfl rfl (hpmc rfl (fun _ hk => hk.cel x1 (fun e => e.elim hn17 (fun e => by have := e.2; omega)))) rfl (okq_load rfl rfl (Keep.refl _ _)) ?_
              refine zhrun ?_ ?_
              refine x_load rfl rfl (hpmc rfl (fun _ hk => hk.cel a2 (fun e => e.elim hn7 (fun e => by cases e.1)))) rfl (okq_load rfl rfl (Keep.refl _ _)) ?_
              refine zhrun ?_ ?_
              refine x_load rfl rfl (hpmc rfl (fun _ hk => hk.cel x2 (fun e => e.elim hn17 (fun e => by have := e.2; omega)))) rfl (okq_load rfl rfl (Keep.refl _ _)) ?_
              refine zhrun ?_ ?_
              refine x_max rfl rfl rfl rfl (okq_reg rfl rfl) ?_
              rw [hmx]
              refine x_append (by rfl) (by rfl) (by rfl) rfl rfl rfl ho sVx (by rw [pcs_length, hqx.len]) hox.cels (pcs_oneC hqx (fun v b h => isSl_oneC h.1.sl)) (by omega) rfl ⟨rfl, rfl⟩ ?_
              intro v11 Hl hapx
              refine ⟨okm_keepC hapx.keep (fun c z hz e => .inl ⟨e.1, by have := e.2; omega⟩), ?_⟩
              have hsl := hapx.keep.size
              have hVl : PoS (fun z => H8.size ≤ z) Hl v11 (r1.P ++ x.P) := PoS.app (S1 := fun z => H8.size ≤ z ∧ (z < H9.size ∨ Hb.size ≤ z) ∧ z < Hg.size) (S2 := fun z => Hi.size ≤ z) hq ho hdq hfk (hqx.mono fun _ _ hb => ⟨hb.1, fun hc => (hb.2 hc).1⟩) hdx (fun z h1 h2 => by have := h1.2.2; omega) (fun z h => h.1) (fun z h => by have := h; omega) (by show H8.size ≤ Hk.size; omega) hapx
              have hovl := isSl_oneC hVl.ps.sl
              have hk8l : Keep (fun z => (z = sb vw ∧ 0 < sc vw) ∨ z = H5.size) H8 Hl := hk8k.step hapx.keep (fun z hz e => by have := (hfk (by have := e.2; omega)).1; have := e.1; omega)
              have hB14l := hB14k.keep hapx.keep (fun e => hn7 ⟨e.1, by have := e.2; omega⟩)
              have hWl := hWk.keep hapx.keep (fun hc e => by have := hwlt hc; have := (hfk (by have := e.2; omega)).1; have := e.1; omega)
              refine zhrun ?_ ?_
              refine x_store rfl rfl rfl hovl hB14l (by simp) ⟨rfl, rfl⟩ ?_
              intro Hm hBm hkmx hsm
              refine ⟨okm_one hkmx (by kernel_rfl) rfl (fun z hz e => .inr ⟨rfl, e⟩), ?_⟩
              refine zhrun ?_ ?_
              refine x_store rfl rfl rfl rfl hBm (by simp) ⟨rfl, rfl⟩ ?_
              intro Hn hBn hknx hsn
              refine ⟨okm_one hknx (by kernel_rfl) rfl (fun z hz e => .inr ⟨rfl, e⟩), ?_⟩
              refine zhrun ?_ ?_
              refine x_store rfl rfl rfl rfl hBn (by simp) ⟨rfl, rfl⟩ ?_
              intro Ho hBo hkox hso
              refine ⟨okm_one hkox (by kernel_rfl) rfl (fun z hz e => .inr ⟨rfl, e⟩), ?_⟩
              have hklo : Keep (· = H5.size) Hl Ho := (hkmx.step hknx (fun _ _ h => h)).step hkox (fun _ _ h => h)
              refine zhrun ?_ ?_
              refine zrun ?_ ?_
              refine nw_round (2, ⟨r1.P ++ x.P, x.next, max r1.deep x.deep⟩, v11) (by repeat (first | exact True.intro | refine ⟨rfl, ?_⟩)) ⟨by simp only; omega, hR, by simp only; omega, hge, by simp only; omega, by simp only [List.length_append]; omega, hk8l.step hklo (fun z hz e => .inr e), hBo, hWl.keep hklo (fun hc (e : _ = _) => by have := hwlt hc; omega), hVl.keep hklo (fun z hz (e : z = _) => by omega)⟩ (by simp only; omega)
        | 2, hj3, hR, pf =>
          have e99 : cel H9 H7.size 2 = some (.int .i64 4) := by rw [hB999.cel]; rfl
          refine zrun ?_ ?_
          refine x_load rfl rfl (hpmt (e99)) rfl trivial ?_
          refine zrun ?_ ?_
          refine x_load rfl rfl (hpmt (D9.d4)) rfl trivial ?_
          refine zrun ?_ ?_
          refine x_buildSlice rfl rfl rfl rfl (by omega) (by simp [oneC, Value.oneCell']) rfl trivial ?_
          intro Ha hna
          refine ⟨trivial, ?_⟩
          have hsa := hna.size
          have hWa := hW9.keep (S := Non) hna.keep (fun _ h => h)
          refine zrun ?_ ?_
          refine x_append (by rfl) (by rfl) (by rfl) rfl rfl rfl hWa (isSl_some (Nat.le_refl _) (by omega)) (m := 1) (cx := [kb c.byte]) rfl (hna.blk.cels 0 1 (by simp)) (by simp [oneC, Value.oneCell']) (by omega) rfl trivial ?_
          intro v17 Hb hap
          refine ⟨trivial, ?_⟩
          have hsb := hap.keep.size
          have hWb := hap.first hWa
          have hKb : Own 1 Hb v17 (way.length + 1) (bvs way ++ [kb c.byte]) := hap.own
          have hplace : (sb v17 = sb vw ∧ so v17 = so vw ∧ sc v17 = sc vw ∧ 0 < sc vw) ∨ (sb v17 = Ha.size ∧ Ha.size < Hb.size) := by
            rcases hap.place with ⟨e1, e2, e3, e4, _⟩ | ⟨e1, _, _, _, e5⟩
            · exact .inl ⟨e1, e2, e3, by omega⟩
            · exact .inr ⟨e1, by omega⟩
          have hk9b : Keep (fun z => z = sb vw ∧ 0 < sc vw) H9 Hb := (hna.keep.mono (S := Non) (fun _ _ h => h.elim)).step hap.keep (fun z hz e => ⟨e.1, by have := e.2; omega⟩)
          have hnb : ∀ z, H.size ≤ z → ¬ (z = sb vw ∧ 0 < sc vw) := fun z h1 e => by have := hwlt e.2; omega
          have hBcb := hBc9.keep hk9b (hnb _ (by omega))
          have hB14b := hB14.keep hk9b (hnb _ (by omega))
          have Db := celD_of hBcb hy9.1
          have hVb : PoS (fun z => H8.size ≤ z ∧ z < H9.size) Hb v r.P := hV9s.keep hk9b (fun z hz => hnb z (by omega))
          have hyb : CelR (fun z => z < B0) Hb y c := hy9.step hk9b (fun z hz => hoff0 z hz) (fun _ h => h)
          refine zrun ?_ ?_
          have hR : R = (topT (fun n => rdT f l n way c.byte.toNat hi) c r).bind (restT (fun n => rdT f l n way lo c.byte.toNat) (fun n => rdT f l n (way ++ [c.byte]) (-1) 256) (fun n => rdT f l n way c.byte.toNat hi) c (way ++ [c.byte]) 3) := hR
          obtain ⟨r1, hr1⟩ : ∃ r1, r1 = r := ⟨_, rfl⟩
          rw [← hr1] at hR pl pe pd pf
          obtain ⟨Hg, hHg⟩ : ∃ Hg, Hg = Hb := ⟨_, rfl⟩
          have hkbg : Keep (fun z => (z = sb v ∧ 0 < sc v) ∨ z = H5.size) Hb Hg := by rw [hHg]; exact Keep.refl _ _
          have hB14g : Blk Hg H5.size [v, .int .i64 r1.next, .int .i64 ((r1.deep : Int) + 1)] := by rw [hHg, hr1]; exact hB14b
          have hVg : PoS (fun z => H8.size ≤ z ∧ (z < H9.size ∨ Hb.size ≤ z)) Hg v r1.P := by rw [hHg, hr1]; exact hVb.mono (fun z hz _ => ⟨hz.1, .inl hz.2⟩)
          have pl1 : i < r1.next := pl
          have pe1 : r1.next ≤ l.length := pe
          have pd1 : r1.deep + i + 1 ≤ r1.next := pd
          have pf1 : r1.P.length + 8 * i + 8 ≤ 8 * r1.next + 3 := by omega
          clear pl pe pd pf hr1
          rw [← hHg]
          clear hHg
          have hsg := hkbg.size
          have hnv : ∀ z, z < H8.size → z ≠ H5.size → ¬ ((z = sb v ∧ 0 < sc v) ∨ z = H5.size) := fun z h1 h2 e => e.elim (fun e => by have := (hfv e.2).1; omega) h2
          have hWg : Own 1 Hg vw way.length (bvs way) := hWb.keep hkbg (fun hc => hnv _ (by have := hwlt hc; omega) (by have := hwlt hc; omega))
          have hKg : Own 1 Hg v17 (way.length + 1) (bvs way ++ [kb c.byte]) := hKb.keep hkbg (fun hc => by
            rcases hplace with h | h
            · rw [h.1]; exact hnv _ (by have := hwlt h.2.2.2; omega) (by have := hwlt h.2.2.2; omega)
            · rw [h.1]; exact fun e => e.elim (fun e => by have := (hfv e.2).2; omega) (fun e => by omega))
          have hBcg := hBcb.keep hkbg (hnv _ (by omega) (by omega))
          have hBrg := (hBr9.keep hk9b (hnb _ (by omega))).keep hkbg (hnv _ (by omega) (by omega))
          have hBog := (hBo9.keep hk9b (hnb _ (by omega))).keep hkbg (hnv _ (by omega) (by omega))
          have Dg := celD_of hBcg hy9.1
          have hk8b : Keep (fun z => (z = sb vw ∧ 0 < sc vw) ∨ z = H5.size) H8 Hb := hk89.step hk9b (fun z hz e => .inl e)
          have hk8g : Keep (fun z => (z = sb vw ∧ 0 < sc vw) ∨ z = H5.size) H8 Hg := hk8b.step hkbg (fun z hz e => e.elim (fun e => by have := (hfv e.2).1; omega) (fun e => .inr e))
          have hk0g : Keep (fun z => z = sb vw ∧ 0 < sc vw) H Hg := (hk08.mono (S := Non) (fun _ _ h => h.elim)).step hk8g (fun z hz e => e.elim (fun e => e) (fun e => by omega))
          have hCg : CR B0 Hg vc l := CR.keepS hC hv hk0g hoff0
          have hovg := isSl_oneC hVg.ps.sl
          refine zrun ?_ ?_
          refine x_load rfl rfl (hpmt (Dg.d3)) rfl trivial ?_
          refine zrun ?_ ?_
          rw [hkb.2.2]
          refine cw_cond rfl (fun hbit => ?_) (fun hbit => ?_) <;> (try simp at hbit)
          · have hR : R = restT (fun n => rdT f l n way lo c.byte.toNat) (fun n => rdT f l n (way ++ [c.byte]) (-1) 256) (fun n => rdT f l n way c.byte.toNat hi) c (way ++ [c.byte]) 3 r1 := by
              have e : topT (fun n => rdT f l n way c.byte.toNat hi) c r1 = some r1 := if_neg (by omega)
              rw [hR, e]; rfl
            refine zrun ?_ ?_
            exact nw_round (3, r1, v) (by repeat (first | exact True.intro | refine ⟨rfl, ?_⟩)) ⟨by simp only; omega, hR, pl1, pe1, pd1, by simp only; omega, hk8g, hB14g, hWg, hVg.mono (fun z hz _ => hz.1)⟩ (by simp only; omega)
          · have hR : R = (stepT r1 (rdT f l r1.next way c.byte.toNat hi)).bind (restT (fun n => rdT f l n way lo c.byte.toNat) (fun n => rdT f l n (way ++ [c.byte]) (-1) 256) (fun n => rdT f l n way c.byte.toNat hi) c (way ++ [c.byte]) 3) := by
              have e : topT (fun n => rdT f l n way c.byte.toNat hi) c r1 = stepT r1 (rdT f l r1.next way c.byte.toNat hi) := if_pos (by omega)
              rw [hR, e]
            refine zrun ?_ ?_
            refine x_build (cs := zP) rfl rfl rfl ocp_nil rfl trivial ?_
            refine x_alloc rfl rfl trivial ?_
            intro Hh hnh
            refine ⟨trivial, ?_⟩
            refine x_stores rfl rfl rfl rfl (by simp [zP, oneC, Value.oneCell']) hnh.blk (by simp [zP]) trivial ?_
            intro Hi hB18 hki hsi
            refine ⟨trivial, ?_⟩
            have hsh := hnh.size
            have hkgi : Keep Non Hg Hi := keep_at hnh.keep hki (Nat.le_refl _)
            have hBri := hBrg.keep hkgi (fun h => h)
            have hBoi := hBog.keep hkgi (fun h => h)
            have hB14i := hB14g.keep hkgi (fun h => h)
            have Di := Dg.keepN hkgi
            have hCi := CR.keepN hCg hkgi
            have hWi := hWg.keep (S := Non) hkgi (fun _ h => h)
            have hKi := hKg.keep (S := Non) hkgi (fun _ h => h)
            have hVi := hVg.keepN hkgi
            have x1 : cel Hi H5.size 1 = some (.int .i64 r1.next) := by rw [hB14i.cel]; rfl
            have hsgi := hkgi.size
            refine zrun ?_ ?_
            refine zrun ?_ ?_
            refine x_loads (cs := [vc]) rfl rfl rfl (hpmt (hBri.cels 0 1 (by simp))) rfl trivial ?_
            refine zrun ?_ ?_
            refine x_load rfl rfl (hpmt (x1)) rfl trivial ?_
            refine zrun ?_ ?_
            refine x_load rfl rfl (hpmt (Di.d4)) rfl trivial ?_
            refine zrun ?_ ?_
            refine x_conv_int rfl rfl rfl trivial ?_
            rw [wrap_i64 (by omega) (by omega)]
            refine zrun ?_ ?_
            refine x_call rfl rfl rfl trivial (ih (i := r1.next) (way := way) (lo := (c.byte.toNat : Int)) (hi := hi) (by omega) (by omega) pe1 hCi (by omega) hWi hwb) ?_
            rintro _ Hj ⟨hkj, hWj, vx, nx, dx, Px, rfl, hVx, hPxl, hxx⟩
            refine ⟨trivial, ?_⟩
            have hkij : Keep (fun z => (z = sb vw ∧ 0 < sc vw) ∨ (z = Ha.size ∧ Ha.size < Hb.size)) Hi Hj := hkj.mono (fun z hz e => .inl e)
            have hgx := @rdT_good f l r1.next way c.byte.toNat hi
            generalize rdT f l r1.next way c.byte.toNat hi = ox at hR hxx hgx ⊢
            have hvx := isSl_oneC hVx.ps.sl
            have hsj := hkij.size
            have hnj : ∀ z, H.size ≤ z → (z = Ha.size → Hb.size ≤ Ha.size) → ¬ ((z = sb vw ∧ 0 < sc vw) ∨ (z = Ha.size ∧ Ha.size < Hb.size)) := fun z h1 h2 e => e.elim (hnb z h1) (fun e => by have := h2 e.1; omega)
            have hB18j := hB18.keep hkij (hnj _ (by omega) (by omega))
            refine zrun ?_ ?_
            refine x_stores rfl rfl rfl rfl (oc_cons hvx (oc_cons rfl (oc_cons rfl oc_nil))) hB18j (by simp [putL, zP]) trivial ?_
            intro Hk hB18k hkk hsk
            refine ⟨trivial, ?_⟩
            have hB18k : Blk Hk Hg.size [vx, .int .i64 nx, .int .i64 dx] := hB18k
            have hkik : Keep (fun z => (z = sb vw ∧ 0 < sc vw) ∨ (z = Ha.size ∧ Ha.size < Hb.size) ∨ z = Hg.size) Hi Hk := (hkij.mono (fun z _ e => e.elim .inl (fun e => .inr (.inl e)))).step hkk (fun z hz e => .inr (.inr e))
            have hnk : ∀ z, H.size ≤ z → (z = Ha.size → Hb.size ≤ Ha.size) → z ≠ Hg.size → ¬ ((z = sb vw ∧ 0 < sc vw) ∨ (z = Ha.size ∧ Ha.size < Hb.size) ∨ z = Hg.size) := fun z h1 h2 h3 e => e.elim (hnb z h1) (fun e => e.elim (fun e => by have := h2 e.1; omega) h3)
            have hB14k := hB14i.keep hkik (hnk _ (by omega) (by omega) (by omega))
            have hBok := hBoi.keep hkik (hnk _ (by omega) (by omega) (by omega))
            have hWk := hWj.keep hkk (fun hc (e : _ = _) => by have := hwlt hc; omega)
            have hVk : PoS (fun z => H8.size ≤ z ∧ (z < H9.size ∨ Hb.size ≤ z) ∧ z < Hg.size) Hk v r1.P := ((hVg.mono (S' := fun z => H8.size ≤ z ∧ (z < H9.size ∨ Hb.size ≤ z) ∧ z < Hg.size) (fun z hz hl => ⟨hz.1, hz.2, hl⟩)).keepN hkgi).keep hkik (fun z hz => hnk z (by omega) (by omega) (by omega))
            have hVxk : PoS (fun z => Hi.size ≤ z) Hk vx Px := hVx.keep hkk (fun z hz (e : z = _) => by omega)
            have hk8i : Keep (fun z => (z = sb vw ∧ 0 < sc vw) ∨ z = H5.size) H8 Hi := hk8g.step hkgi (fun _ _ h => h.elim)
            have hk8k : Keep (fun z => (z = sb vw ∧ 0 < sc vw) ∨ z = H5.size) H8 Hk := hk8i.step hkik (fun z hz e => e.elim .inl (fun e => by omega))
            refine zrun ?_ ?_
            cases ox with
            | none =>
              have hz : none = R := hR.symm
              have hk0k : Keep (fun z => z = sb vw ∧ 0 < sc vw) H Hk := (hk08.mono (S := Non) (fun _ _ h => h.elim)).step hk8k (fun z hz e => e.elim (fun e => e) (fun e => by omega))
              refine zrun ?_ ?_
              refine x_build (cs := zP) rfl rfl rfl ocp_nil rfl trivial ?_
              refine x_stores rfl rfl rfl rfl (by simp [zP, oneC, Value.oneCell']) (hBok) (by simp [zP]) trivial ?_
              intro Hz hBz hkz hsz
              refine ⟨trivial, ?_⟩
              refine zrun ?_ ?_
              exact cw_retc2 rfl rfl rfl rfl (hBz.cels 0 3 (by simp [putL, zP])) ⟨Keep.step (S := fun z => z = sb vw ∧ 0 < sc vw) ((hk0k).mono (fun _ _ h => by first | exact h | exact h.elim)) hkz (fun z hz (e : z = _) => by omega), (hWk).keep hkz (fun hc (e : _ = _) => by have := hwlt hc; omega), .slice none 0 0, 0, 0, [], by rw [← hz]; rfl, PoS.nil _ _, Nat.zero_le _, fun x hx => by rw [← hz] at hx; cases hx⟩
            | some x =>
              obtain ⟨w1, w2, w3⟩ := hxx x rfl
              subst w1 w2 w3
              obtain ⟨hg, hgf⟩ := hgx rfl
              have hgl := hg.lt; have hge := hg.le; have hgd := hg.deep
              obtain ⟨q, hq, ho, hdq⟩ := id hVk.row
              obtain ⟨qx, hqx, hox, hdx⟩ := id hVxk.row
              have sVx := hox.sl
              have a0 : cel Hk H5.size 0 = some v := by rw [hB14k.cel]; rfl
              have a2 : cel Hk H5.size 2 = some (.int .i64 ((r1.deep : Int) + 1)) := by rw [hB14k.cel]; rfl
              have x0 : cel Hk Hg.size 0 = some vx := by rw [hB18k.cel]; rfl
              have x1 : cel Hk Hg.size 1 = some (.int .i64 x.next) := by rw [hB18k.cel]; rfl
              have x2 : cel Hk Hg.size 2 = some (.int .i64 x.deep) := by rw [hB18k.cel]; rfl
              have hfk := hVk.fresh
              have hn7 : ¬ (H5.size = sb v ∧ 0 < sc v) := fun e => by have := (hfk e.2).1; omega
              have hn17 : ¬ (Hg.size = sb v ∧ 0 < sc v) := fun e => by have := (hfk e.2).2.2; omega
              have hmx : max ((r1.deep : Int) + 1) (1 + (x.deep : Int)) = ((max r1.deep x.deep : Nat) : Int) + 1 := by omega
              refine zrunc ?_ ?_
              refine cw_held (fun c => Keep ((fun (c : Nat) (z : Nat) => (z = sb v ∧ 0 < sc v) ∨ (c = 1 ∧ z = H5.size)) c) Hk) ⟨[4, 14, 16, 18], [(1, 0), (3, 1), (6, 1), (8, 0), (10, 1)]⟩ (.op 0 (.op 1 (.op 2 (.op 3 (.op 5 (.op 6 (.op 7 (.op 8 (.op 9 (.op 10 (.op 11 (.op 12 (.op 4 (.op 13 (.op 14 (.op 15 (.op 16 (.op 17 (.op 18 (.nil)))))))))))))))))))) panicOk_body mixed (by kernel_rfl) ?_
              refine zhrun ?_ ?_
              refine x_load rfl rfl (hpmc rfl (fun _ hk => hk.cel a0 (fun e => e.elim hn7 (fun e => by cases e.1)))) rfl (okq_load rfl rfl (Keep.refl _ _)) ?_
              refine zhrun ?_ ?_
              refine x_load rfl rfl (hpmc rfl (fun _ hk => hk.cel x0 (fun e => e.elim hn17 (fun e => by have := e.2; omega)))) rfl (okq_load rfl rfl (Keep.refl _ _)) ?_
              refine zhrun ?_ ?_
              refine x_load rfl rfl (hpmc rfl (fun _ hk => hk.cel x1 (fun e => e.elim hn17 (fun e => by have := e.2; omega)))) rfl (okq_load rfl rfl (Keep.refl _ _)) ?_
              refine zhrun ?_ ?_
              refine x_load rfl rfl (hpmc rfl (fun _ hk => hk.cel a2 (fun e => e.elim hn7 (fun e => by cases e.1)))) rfl (okq_load rfl rfl (Keep.refl _ _)) ?_
              refine zhrun ?_ ?_
              refine x_load rfl rfl (hpmc rfl (fun _ hk => hk.cel x2 (fun e => e.elim hn17 (fun e => by have := e.2; omega)))) rfl (okq_load rfl rfl (Keep.refl _ _)) ?_
              refine zhrun ?_ ?_
              refine x_max rfl rfl rfl rfl (okq_reg rfl rfl) ?_
              rw [hmx]
              refine x_append (by rfl) (by rfl) (by rfl) rfl rfl rfl ho sVx (by rw [pcs_length, hqx.len]) hox.cels (pcs_oneC hqx (fun v b h => isSl_oneC h.1.sl)) (by omega) rfl ⟨rfl, rfl⟩ ?_
              intro v11 Hl hapx
              refine ⟨okm_keepC hapx.keep (fun c z hz e => .inl ⟨e.1, by have := e.2; omega⟩), ?_⟩
              have hsl := hapx.keep.size
              have hVl : PoS (fun z => H8.size ≤ z) Hl v11 (r1.P ++ x.P) := PoS.app (S1 := fun z => H8.size ≤ z ∧ (z < H9.size ∨ Hb.size ≤ z) ∧ z < Hg.size) (S2 := fun z => Hi.size ≤ z) hq ho hdq hfk (hqx.mono fun _ _ hb => ⟨hb.1, fun hc => (hb.2 hc).1⟩) hdx (fun z h1 h2 => by have := h1.2.2; omega) (fun z h => h.1) (fun z h => by have := h; omega) (by show H8.size ≤ Hk.size; omega) hapx
              have hovl := isSl_oneC hVl.ps.sl
              have hk8l : Keep (fun z => (z = sb vw ∧ 0 < sc vw) ∨ z = H5.size) H8 Hl := hk8k.step hapx.keep (fun z hz e => by have := (hfk (by have := e.2; omega)).1; have := e.1; omega)
              have hB14l := hB14k.keep hapx.keep (fun e => hn7 ⟨e.1, by have := e.2; omega⟩)
              have hWl := hWk.keep hapx.keep (fun hc e => by have := hwlt hc; have := (hfk (by have := e.2; omega)).1; have := e.1; omega)
              refine zhrun ?_ ?_
              refine x_store rfl rfl rfl hovl hB14l (by simp) ⟨rfl, rfl⟩ ?_
              intro Hm hBm hkmx hsm
              refine ⟨okm_one hkmx (by kernel_rfl) rfl (fun z hz e => .inr ⟨rfl, e⟩), ?_⟩
              refine zhrun ?_ ?_
              refine x_store rfl rfl rfl rfl hBm (by simp) ⟨rfl, rfl⟩ ?_
              intro Hn hBn hknx hsn
              refine ⟨okm_one hknx (by kernel_rfl) rfl (fun z hz e => .inr ⟨rfl, e⟩), ?_⟩
              refine zhrun ?_ ?_
              refine x_store rfl rfl rfl rfl hBn (by simp) ⟨rfl, rfl⟩ ?_
              intro Ho hBo hkox hso
              refine ⟨okm_one hkox (by kernel_rfl) rfl (fun z hz e => .inr ⟨rfl, e⟩), ?_⟩
              have hklo : Keep (· = H5.size) Hl Ho := (hkmx.step hknx (fun _ _ h => h)).step hkox (fun _ _ h => h)
              refine zhrun ?_ ?_
              refine zrun ?_ ?_
              refine nw_round (3, ⟨r1.P ++ x.P, x.next, max r1.deep x.deep⟩, v11) (by repeat (first | exact True.intro | refine ⟨rfl, ?_⟩)) ⟨by simp only; omega, hR, by simp only; omega, hge, by simp only; omega, by simp only [List.length_append]; omega, hk8l.step hklo (fun z hz e => .inr e), hBo, hWl.keep hklo (fun hc (e : _ = _) => by have := hwlt hc; omega), hVl.keep hklo (fun z hz (e : z = _) => by omega)⟩ (by simp only; omega)
        | 3, hj3, hR, pf =>
          have hR : R = endT c r := hR
          have sV := hV9.ps.sl
          have hkr := Keep.refl (fun z => z = H1.size) H9
          refine cw_seq ?_
          refine cw_region ?_
          refine zrunc ?_ ?_
          refine cw_held (fun _ => Keep (fun z => z = H1.size) H9) ⟨[7], [(0, 0), (2, 0), (4, 0)]⟩ (.op 0 (.op 1 (.op 2 (.op 3 (.op 4 (.op 5 (.op 6 (.op 7 (.op 8 (.nil)))))))))) panicOk_body mixed (by kernel_rfl) ?_
          refine zhrun ?_ ?_
          refine x_loads (cs := [v, .int .i64 r.next, .int .i64 ((r.deep : Int) + 1)]) rfl rfl rfl (hpmk rfl (fun _ hk => (hB14.cels 0 3 (by simp)).keep hk (fun _ (e : _ = _) => by omega))) rfl (okq_load rfl rfl (by assumption)) ?_
          refine zhrun ?_ ?_
          refine x_load rfl rfl (hpmk rfl (fun _ hk => hk.cel D9.d2 (fun (e : _ = _) => by omega))) rfl (okq_load rfl rfl (by assumption)) ?_
          refine zhrun ?_ ?_
          refine x_load rfl rfl (hpmk rfl (fun _ hk => hk.cel f0 (fun (e : _ = _) => by omega))) rfl (okq_load rfl rfl (by assumption)) ?_
          refine zhrun ?_ ?_
          refine x_stores rfl rfl rfl rfl (oc_cons hov (oc_cons rfl (oc_cons rfl oc_nil))) hBo9 (by simp [zP]) ⟨rfl, rfl⟩ ?_
          intro H10 hB10 hk10 hs10
          refine ⟨okm_keep hk10 (fun _ _ e => e), ?_⟩
          refine zhrun ?_ ?_
          refine zrun ?_ ?_
          refine cw_retc2 rfl rfl rfl rfl (hB10.cels 0 3 (by simp [putL, zP])) ⟨hk09.step hk10 (fun z hz (e : z = _) => by omega), hW9.keep hk10 (fun hc (e : _ = _) => by have := hwlt hc; omega), v, (r.next : Int), (r.deep : Int) + 1, r.P, ?_, (hV9.keep hk10 (fun z hz (e : z = _) => by omega)).mono (fun z hz _ => by omega), by omega, fun x hx => ?_⟩
          · rw [hR]
            unfold endT
            by_cases hcn : c.count = (r.P.length : Int)
            · rw [if_pos hcn, show (c.count == (r.P.length : Int)) = true from by simpa using hcn]; rfl
            · rw [if_neg hcn, show (c.count == (r.P.length : Int)) = false from by simpa using hcn]; rfl
          · rw [hR] at hx
            unfold endT at hx
            split at hx
            · injection hx with hx
              subst hx
              exact ⟨rfl, rfl, rfl⟩
            · cases hx
        | j + 4, hj3, _, _ => exact absurd hj3 (by omega)
end Go.Proofs.YtkdmcbacofafpaaDoor.X
