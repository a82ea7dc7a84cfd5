/- Chapter 11's document: what it reads of the cells of a radix tree. -/
import Derived.Test.YtkdmcbacofafpaaDoorR11b
namespace Go.Proofs.YtkdmcbacofafpaaDoor.X
open Go Go.Proofs
set_option linter.unusedVariables false
set_option linter.unusedSimpArgs false
set_option maxRecDepth 10000
set_option maxHeartbeats 4000000

theorem ref11_band {k n : Int} {H : Heap} (h1 : 6 ≤ k) (h2 : k ≤ 9) : Ret Tryd.prog 47 [.int .i64 k, .int .i64 n] H (fun v H' => H = H' ∧ ∃ e : Bool, v = .bool e ∧ (e = true ↔ bandC k n)) := by
  refine ret_of Tryd.func47 rfl rfl rfl rfl ?_
  intro w0
  refine zrun ?_ ?_
  refine cw_cond rfl (fun g1 => ?_) (fun g1 => ?_) <;> (try simp at g1)
  · refine zrun ?_ ?_
    refine cw_ret1 rfl rfl ⟨rfl, _, rfl, ?_⟩
    rw [decide_eq_true_iff]
    unfold bandC
    omega
  · refine zrun ?_ ?_
    refine cw_cond rfl (fun g2 => ?_) (fun g2 => ?_) <;> (try simp at g2)
    · refine zrun ?_ ?_
      refine x_split 14 rfl (fun g3 => ?_) (fun g3 => ?_) <;> (try simp at g3)
      · refine zrun ?_ ?_
        refine cw_ret1 rfl rfl ⟨rfl, _, rfl, ?_⟩
        rw [decide_eq_true_iff]
        unfold bandC
        omega
      · refine zrun ?_ ?_
        refine cw_ret1 rfl rfl ⟨rfl, _, rfl, ?_⟩
        refine ⟨(fun e => by cases e), (fun h => ?_)⟩
        unfold bandC at h
        omega
    · refine zrun ?_ ?_
      refine cw_cond rfl (fun g4 => ?_) (fun g4 => ?_) <;> (try simp at g4)
      · refine zrun ?_ ?_
        refine x_split 22 rfl (fun g3 => ?_) (fun g3 => ?_) <;> (try simp at g3)
        · refine zrun ?_ ?_
          refine cw_ret1 rfl rfl ⟨rfl, _, rfl, ?_⟩
          rw [decide_eq_true_iff]
          unfold bandC
          omega
        · refine zrun ?_ ?_
          refine cw_ret1 rfl rfl ⟨rfl, _, rfl, ?_⟩
          refine ⟨(fun e => by cases e), (fun h => ?_)⟩
          unfold bandC at h
          omega
      · refine zrun ?_ ?_
        refine x_split 28 rfl (fun g3 => ?_) (fun g3 => ?_) <;> (try simp at g3)
        · refine zrun ?_ ?_
          refine cw_ret1 rfl rfl ⟨rfl, _, rfl, ?_⟩
          rw [decide_eq_true_iff]
          unfold bandC
          omega
        · refine zrun ?_ ?_
          refine cw_ret1 rfl rfl ⟨rfl, _, rfl, ?_⟩
          refine ⟨(fun e => by cases e), (fun h => ?_)⟩
          unfold bandC at h
          omega

theorem ref11_Radix {l : List Cel} {vc : Value} {B0 : Nat} (hok : CelsOk l) : ∀ (f : Nat) {i : Nat} {way : Bytes} {vw : Value} {H : Heap}, 0 < f → l.length < i + f → CR B0 H vc l → Bs H vw way → B0 ≤ H.size →
    Ret Tryd.prog 34 [vc, .int .i64 i, vw] H (ReadO B0 (rdR f l i way) H) := by
  intro f
  induction f with
  | zero =>
    intro i way vw H hf0
    omega
  | succ f ih =>
    intro i way vw H hf0 hf hC hW hB
    have sC := hC.sl
    have cC := sC.cap
    have sW := hW.sl
    have hll := hok.len
    obtain ⟨R, hR⟩ : ∃ R, R = rdR (f + 1) l i way := ⟨_, rfl⟩
    rw [← hR]
    refine ret_of Tryd.func34 rfl rfl rfl rfl ?_
    intro w0
    refine zrun ?_ ?_
    refine x_alloc rfl rfl trivial ?_
    intro H1 hn1
    refine ⟨trivial, ?_⟩
    have hC1 := CR.keepN hC hn1.keep
    have hW1 := hW.keepN hn1.keep
    have hB6 : Blk H1 H.size zR := hn1.blk
    have hs1 := hn1.size
    have hk1 := hn1.keep
    refine zrunc ?_ ?_
    refine cw_cut (fun e : Bool => [(0, vc), (1, .int .i64 i), (6, ptr H.size 0), (36, .bool e)]) (fun e H' => H1 = H' ∧ (e = true → R = none) ∧ (e = false → ∃ c, l[i]? = some c ∧ begins c.key way = true ∧ c.key.length ≤ 65535)) ?_ ?_
    · refine zrun ?_ ?_
      refine x_split 18 rfl (fun h1 => ?_) (fun h1 => ?_) <;> (try simp at h1)
      · have hn : l[i]? = none := List.getElem?_eq_none (by omega)
        refine zrun ?_ ?_
        exact nw_meet true (by repeat (first | exact True.intro | refine ⟨rfl, ?_⟩)) ⟨rfl, (fun _ => by rw [hR, rdR_none hn]), (fun e => by cases e)⟩
      · obtain ⟨c, hc⟩ : ∃ c, l[i]? = some c := ⟨_, List.getElem?_eq_getElem (by omega)⟩
        obtain ⟨y, hy, hcel⟩ := Rd.cel hC1 encC_len hc
        have q7 : cel H1 (sb vc) (so vc + i * 9 + 7) = some y.2.1 := by rw [hcel 7 (by omega)]; rfl
        have hK1 := hy.2.1.1
        have sK := hK1.sl
        have hbad : ¬ (begins c.key way = true ∧ c.key.length ≤ 65535) → R = none := fun h => by rw [hR, rdR_some hc, if_neg h]
        refine zrun ?_ ?_
        refine x_load rfl rfl (hpmt (q7)) rfl trivial ?_
        refine zrun ?_ ?_
        refine x_call rfl rfl rfl trivial (ref_Begins hK1 hW1) ?_
        rintro _ _ ⟨rfl, rfl⟩
        refine ⟨trivial, ?_⟩
        refine zrun ?_ ?_
        refine x_split 28 rfl (fun h2 => ?_) (fun h2 => ?_) <;> (try simp at h2)
        · refine zrun ?_ ?_
          exact nw_meet true (by repeat (first | exact True.intro | refine ⟨rfl, ?_⟩)) ⟨rfl, (fun _ => hbad (fun e => by rw [e.1] at h2; cases h2)), (fun e => by cases e)⟩
        · refine zrun ?_ ?_
          refine x_load rfl rfl (hpmt (q7)) rfl trivial ?_
          refine zrun ?_ ?_
          refine x_call rfl rfl rfl trivial (ref_May sK) ?_
          rintro _ _ ⟨rfl, rfl⟩
          refine ⟨trivial, ?_⟩
          refine zrun ?_ ?_
          refine nw_meet _ (by repeat (first | exact True.intro | refine ⟨rfl, ?_⟩)) ⟨rfl, (fun e => hbad (fun e' => ?_)), (fun e => ⟨c, hc, h2, ?_⟩)⟩
          · rw [decide_eq_true e'.2] at e; cases e
          · simpa using e
    rintro e _ ⟨rfl, ht, hfl⟩
    cases e with
    | true =>
      have hz := ht rfl
      refine zrun ?_ ?_
      refine x_build (cs := [.slice none 0 0, .int .i64 0, .int .i64 0, .bool false]) rfl rfl rfl ocp_nil rfl trivial ?_
      refine x_stores rfl rfl rfl rfl (by simp [oneC, Value.oneCell']) (hB6) (by simp [zR]) trivial ?_
      intro Hz hBz hkz hsz
      refine ⟨trivial, ?_⟩
      refine zrun ?_ ?_
      exact cw_retc rfl rfl rfl (hBz.cels 0 4 (by simp [putL, zR])) ⟨keep_at (hk1) hkz (Nat.le_refl _), .slice none 0 0, 0, 0, [], by rw [hz]; rfl, RdV.nil _ _ _, Nat.zero_le _, fun x hx => by rw [hz] at hx; cases hx⟩
    | false =>
      obtain ⟨c, hc, hbe⟩ := hfl rfl
      obtain ⟨y, hy, hcels⟩ := Rd.cels hC1 encC_len hc
      have hyc := hy.1
      have hilt := (List.getElem?_eq_some_iff.1 hc).1
      have hcm := List.mem_of_getElem? hc
      have hat := hok.at_ c hcm
      have hkk := hok.kids c hcm
      refine zrun ?_ ?_
      refine x_loads (cs := encC y) rfl rfl rfl (hpmt hcels) rfl trivial ?_
      refine x_alloc rfl rfl trivial ?_
      intro H2 hn2
      refine ⟨trivial, ?_⟩
      refine x_stores rfl rfl rfl rfl (CelR.oneC hy) hn2.blk (by simp [encC]) trivial ?_
      intro H3 hB7 hk3 hs3
      refine ⟨trivial, ?_⟩
      have hs2 := hn2.size
      have hk13 : Keep Non H1 H3 := keep_at hn2.keep hk3 (Nat.le_refl _)
      have hk03 := hk1.non_trans hk13
      have hC3 := CR.keepN hC hk03
      have hB63 : Blk H3 H.size zR := hB6.keep hk13 (fun h => h)
      have hy3 : CelR (fun z => z < B0) H3 y c := hy.step hk13 (fun _ _ h => h) (fun _ h => h)
      have hB73 : Blk H3 H1.size (encC y) := hB7
      have D := celD_of hB73 hyc
      have hK : Bs H3 y.2.1 c.key := hy3.2.1.1
      have hP3 : Ps H3 y.2.2 c.pairs := hy3.2.2.1.ps (fun _ _ h => h.1)
      have sK := hK.sl
      have sP := hP3.sl
      have cP := sP.cap
      have cK := sK.cap
      have hRc : R = (open Classical in if Leaf c 5 then some ⟨[(c.key, c.val)], i + 1, 1⟩
        else if NodeR c then (kidsR (rdR f l) l c.key c.kids.toNat (begR c i) (-1)).bind fun r => endT c r
        else none) := by
        rw [hR, rdR_some hc, if_pos hbe]
      refine zrun ?_ ?_
      refine x_load rfl rfl (hpmt (D.d0)) rfl trivial ?_
      refine zrun ?_ ?_
      refine cw_cond rfl (fun hk1' => ?_) (fun hk1' => ?_) <;> (try simp at hk1')
      · have hk1'' : ¬ NodeR c := fun h => by have := h.band; unfold bandC at this; omega
        refine zrunc ?_ ?_
        refine cw_cut (fun e : Bool => [(0, vc), (1, .int .i64 i), (6, ptr H.size 0), (7, ptr H1.size 0), (8, .bool e)]) (fun e H' => H3 = H' ∧ (e = true ↔ Leaf c 5)) ?_ ?_
        · refine zrun ?_ ?_
          refine x_load rfl rfl (hpmt (D.d1)) rfl trivial ?_
          refine zrun ?_ ?_
          refine x_split 48 rfl (fun g1 => ?_) (fun g1 => ?_) <;> (try simp at g1)
          · refine zrun ?_ ?_
            refine x_load rfl rfl (hpmt (D.d4)) rfl trivial ?_
            refine zrun ?_ ?_
            rw [byte_zero]
            refine x_split 53 rfl (fun g2 => ?_) (fun g2 => ?_) <;> (try simp at g2)
            · refine zrun ?_ ?_
              refine x_load rfl rfl (hpmt (D.d5)) rfl trivial ?_
              refine zrun ?_ ?_
              refine x_split 58 rfl (fun g3 => ?_) (fun g3 => ?_) <;> (try simp at g3)
              · refine zrun ?_ ?_
                refine x_load rfl rfl (hpmt (D.d3)) rfl trivial ?_
                refine zrun ?_ ?_
                refine x_split 63 rfl (fun g4 => ?_) (fun g4 => ?_) <;> (try simp at g4)
                · refine zrun ?_ ?_
                  refine x_load rfl rfl (hpmt (D.d2)) rfl trivial ?_
                  refine zrun ?_ ?_
                  refine x_split 68 rfl (fun g5 => ?_) (fun g5 => ?_) <;> (try simp at g5)
                  · refine zrun ?_ ?_
                    refine x_load rfl rfl (hpmt (D.d8)) rfl trivial ?_
                    refine zrun ?_ ?_
                    refine nw_meet _ (by repeat (first | exact True.intro | refine ⟨rfl, ?_⟩)) ⟨rfl, (fun e => ⟨hk1', g1, g4, g2, g3, ?_, g5, hbe.2⟩), (fun h => ?_)⟩
                    · exact List.length_eq_zero_iff.1 (by simp at e; simp [e])
                    · rw [h.pairs]; rfl
                  · refine zrun ?_ ?_
                    exact nw_meet false (by repeat (first | exact True.intro | refine ⟨rfl, ?_⟩)) ⟨rfl, (fun e => by cases e), (fun h => absurd h.count g5)⟩
                · refine zrun ?_ ?_
                  exact nw_meet false (by repeat (first | exact True.intro | refine ⟨rfl, ?_⟩)) ⟨rfl, (fun e => by cases e), (fun h => absurd h.kids g4)⟩
              · refine zrun ?_ ?_
                exact nw_meet false (by repeat (first | exact True.intro | refine ⟨rfl, ?_⟩)) ⟨rfl, (fun e => by cases e), (fun h => by rw [h.full] at g3; cases g3)⟩
            · refine zrun ?_ ?_
              exact nw_meet false (by repeat (first | exact True.intro | refine ⟨rfl, ?_⟩)) ⟨rfl, (fun e => by cases e), (fun h => absurd h.byte g2)⟩
          · refine zrun ?_ ?_
            exact nw_meet false (by repeat (first | exact True.intro | refine ⟨rfl, ?_⟩)) ⟨rfl, (fun e => by cases e), (fun h => absurd h.at_ g1)⟩
        rintro e _ ⟨rfl, he⟩
        have hRe : R = if e = true then some ⟨[(c.key, c.val)], i + 1, 1⟩ else none := by
          rw [hRc]
          cases e with
          | true => rw [if_pos (he.1 rfl)]; rfl
          | false => rw [if_neg (fun h => by have := he.2 h; cases this), if_neg hk1'']; rfl
        refine zrun ?_ ?_
        refine x_load rfl rfl (hpmt (D.d7)) rfl trivial ?_
        refine zrun ?_ ?_
        refine x_load rfl rfl (hpmt (D.d6)) rfl trivial ?_
        refine zrun ?_ ?_
        refine x_build (cs := [y.2.1, .int .u64 c.val]) rfl rfl rfl (two_oneC (isSl_oneC sK)) rfl trivial ?_
        refine x_buildSliceS1 (by rfl) rfl rfl (by omega) (by rfl) rfl trivial ?_
        intro H4 hn4
        refine ⟨trivial, ?_⟩
        have hs4 := hn4.size
        have hB64 := hB63.keep (S := Non) hn4.keep (fun h => h)
        refine zrun ?_ ?_
        refine x_build (cs := [.slice (some ⟨H3.size, 0, none⟩) 1 1, .int .i64 (i + 1), .int .i64 1, .bool e]) rfl rfl rfl (ocp_cons rfl (ocp_cons rfl (ocp_cons rfl (ocp_cons rfl ocp_nil)))) rfl trivial ?_
        refine x_stores rfl rfl rfl rfl (oc_cons rfl (oc_cons rfl (oc_cons rfl (oc_cons rfl oc_nil)))) hB64 (by simp [zR]) trivial ?_
        intro H5 hB5 hk5 hs5
        refine ⟨trivial, ?_⟩
        have hk05 : Keep Non H H5 := keep_at (hn4.old hk03) hk5 (Nat.le_refl _)
        have hk35 : Keep (· = H.size) H3 H5 := (hn4.keep.mono (S := Non) (fun _ _ h => h.elim)).step hk5 (fun _ _ e => e)
        refine zrun ?_ ?_
        refine cw_retc rfl rfl rfl (hB5.cels 0 4 (by simp [putL, zR])) ⟨hk05, .slice (some ⟨H3.size, 0, none⟩) 1 1, (i : Int) + 1, 1, [(c.key, c.val)], ?_, ⟨⟨[(y.2.1, c.val)], ?_, Pk.one (p := (c.key, c.val)) (hy3.2.1.step hk35 (fun z hz e => by have e : z = H.size := e; omega) (fun _ h => h))⟩, fun _ => by show H.size ≤ H3.size; omega⟩, by simp, fun x hx => ?_⟩
        · rw [hRe]; cases e <;> rfl
        · exact (Own.new (s := 2) (n := 1) hn4 rfl (by omega)).keep hk5 (fun _ e => by have e : H3.size = H.size := e; omega)
        · rw [hRe] at hx
          cases e with
          | false => cases hx
          | true =>
            injection hx with hx
            subst hx
            exact ⟨rfl, rfl, rfl⟩
      · have hnl : ¬ Leaf c 5 := fun h => hk1' h.kind
        rw [if_neg hnl] at hRc
        refine zrun ?_ ?_
        refine x_build (cs := [.slice none 0 0, .int .i64 (i + 1), .int .i64 0, .bool true]) rfl rfl rfl (ocp_cons rfl (ocp_cons rfl ocp_nil)) rfl trivial ?_
        refine x_alloc rfl rfl trivial ?_
        intro H4 hn4
        refine ⟨trivial, ?_⟩
        refine x_stores rfl rfl rfl rfl (by simp [oneC, Value.oneCell']) hn4.blk (by simp) trivial ?_
        intro H5 hB11 hk5 hs5
        refine ⟨trivial, ?_⟩
        have hs4 := hn4.size
        have hk35 : Keep Non H3 H5 := keep_at hn4.keep hk5 (Nat.le_refl _)
        have D5 := D.keepN hk35
        refine zrun ?_ ?_
        refine x_load rfl rfl (hpmt (D5.d5)) rfl trivial ?_
        refine zrun ?_ ?_
        refine cw_cut (fun s : Int × Value => [(0, vc), (1, .int .i64 i), (6, ptr H.size 0), (7, ptr H1.size 0), (9, .int .i64 s.1), (10, ptr H3.size 0)]) (fun s H' => s.1 = (if c.full then 1 else 0) ∧ Keep Non H3 H' ∧ H5.size ≤ H'.size ∧ Blk H' H3.size [s.2, .int .i64 (i + 1 : Nat), .int .i64 0, .bool true] ∧ RdV B0 H5.size H' s.2 (begR c i).P) ?_ ?_
        · refine cw_cond rfl (fun hfull => ?_) (fun hfull => ?_) <;> (try simp at hfull)
          · refine zrun ?_ ?_
            refine x_load rfl rfl (hpmt (D5.d7)) rfl trivial ?_
            refine zrun ?_ ?_
            refine x_load rfl rfl (hpmt (D5.d6)) rfl trivial ?_
            refine zrun ?_ ?_
            refine x_build (cs := [y.2.1, .int .u64 c.val]) rfl rfl rfl (two_oneC (isSl_oneC sK)) rfl trivial ?_
            refine x_buildSliceS1 (by rfl) rfl rfl (by omega) (by rfl) rfl trivial ?_
            intro H6 hn6
            refine ⟨trivial, ?_⟩
            have hs6 := hn6.size
            have hB116 := hB11.keep hn6.keep (fun h => h)
            refine zrun ?_ ?_
            refine x_store rfl rfl rfl rfl hB116 (by simp [putL]) trivial ?_
            intro H7 hB7a hk7 hs7
            refine ⟨trivial, ?_⟩
            have hk37 : Keep Non H3 H7 := keep_at (hn6.old hk35) hk7 (Nat.le_refl _)
            refine zrun ?_ ?_
            refine nw_meet (1, .slice (some ⟨H5.size, 0, none⟩) 1 1) (by repeat (first | exact True.intro | refine ⟨rfl, ?_⟩)) ⟨by rw [hfull]; rfl, hk37, by omega, hB7a, ?_⟩
            have e : (begR c i).P = [(c.key, c.val)] := by unfold begR; rw [hfull]; rfl
            rw [e]
            refine ⟨⟨[(y.2.1, c.val)], ?_, Pk.one (p := (c.key, c.val)) (hy3.2.1.step hk37 (fun _ _ h => h) (fun _ h => h))⟩, fun _ => Nat.le_refl _⟩
            exact (Own.new (s := 2) (n := 1) hn6 rfl (by omega)).keep hk7 (fun _ e => by have e : H5.size = H3.size := e; omega)
          · refine zrun ?_ ?_
            refine nw_meet (0, .slice none 0 0) (by repeat (first | exact True.intro | refine ⟨rfl, ?_⟩)) ⟨by rw [hfull]; rfl, hk35, Nat.le_refl _, hB11, ?_⟩
            have e : (begR c i).P = [] := by unfold begR; rw [hfull]; rfl
            rw [e]
            exact RdV.nil _ _ _
        rintro ⟨o, v0⟩ H6 ⟨ho1, hk36, hs56, hB16, hV6⟩
        dsimp only at ho1 hB16 hV6 ⊢
        have D6 := D.keepN hk36
        have ho2 : 0 ≤ o ∧ o ≤ 1 := by rw [ho1]; cases c.full <;> decide
        refine zrunc ?_ ?_
        refine cw_cut (fun e : Bool => [(0, vc), (1, .int .i64 i), (6, ptr H.size 0), (7, ptr H1.size 0), (10, ptr H3.size 0), (144, .bool e)]) (fun e H' => H6 = H' ∧ (e = true → ¬ NodeR c) ∧ (e = false → NodeR c)) ?_ ?_
        · refine zrun ?_ ?_
          refine x_load rfl rfl (hpmt (D6.d0)) rfl trivial ?_
          refine zrun ?_ ?_
          refine x_split 99 rfl (fun g1 => ?_) (fun g1 => ?_) <;> (try simp at g1)
          · refine zrun ?_ ?_
            exact nw_meet true (by repeat (first | exact True.intro | refine ⟨rfl, ?_⟩)) ⟨rfl, (fun _ h => by have := h.band; unfold bandC at this; omega), (fun e => by cases e)⟩
          · refine zrun ?_ ?_
            refine x_load rfl rfl (hpmt (D6.d0)) rfl trivial ?_
            refine zrun ?_ ?_
            refine x_split 104 rfl (fun g2 => ?_) (fun g2 => ?_) <;> (try simp at g2)
            · refine zrun ?_ ?_
              exact nw_meet true (by repeat (first | exact True.intro | refine ⟨rfl, ?_⟩)) ⟨rfl, (fun _ h => by have := h.band; unfold bandC at this; omega), (fun e => by cases e)⟩
            · refine zrun ?_ ?_
              refine x_load rfl rfl (hpmt (D6.d1)) rfl trivial ?_
              refine zrun ?_ ?_
              refine x_split 109 rfl (fun g3 => ?_) (fun g3 => ?_) <;> (try simp at g3)
              · refine zrun ?_ ?_
                exact nw_meet true (by repeat (first | exact True.intro | refine ⟨rfl, ?_⟩)) ⟨rfl, (fun _ h => by exact g3 h.at_), (fun e => by cases e)⟩
              · refine zrun ?_ ?_
                refine x_load rfl rfl (hpmt (D6.d4)) rfl trivial ?_
                refine zrun ?_ ?_
                refine x_split 114 rfl (fun g4 => ?_) (fun g4 => ?_) <;> (try simp at g4)
                · refine zrun ?_ ?_
                  exact nw_meet true (by repeat (first | exact True.intro | refine ⟨rfl, ?_⟩)) ⟨rfl, (fun _ h => by rw [h.byte] at g4; exact g4 rfl), (fun e => by cases e)⟩
                · refine zrun ?_ ?_
                  refine x_load rfl rfl (hpmt (D6.d8)) rfl trivial ?_
                  refine zrun ?_ ?_
                  refine x_split 120 rfl (fun g5 => ?_) (fun g5 => ?_) <;> (try simp at g5)
                  · refine zrun ?_ ?_
                    exact nw_meet true (by repeat (first | exact True.intro | refine ⟨rfl, ?_⟩)) ⟨rfl, (fun _ h => by rw [h.pairs] at g5; simp at g5), (fun e => by cases e)⟩
                  · refine zrun ?_ ?_
                    refine x_load rfl rfl (hpmt (D6.d5)) rfl trivial ?_
                    refine zrun ?_ ?_
                    have hp0 : c.pairs = [] := by first | exact g5 | exact List.length_eq_zero_iff.1 (by omega)
                    refine x_split 124 rfl (fun g6 => ?_) (fun g6 => ?_) <;> (try simp at g6)
                    · refine zrun ?_ ?_
                      refine x_load rfl rfl (hpmt (D6.d6)) rfl trivial ?_
                      refine zrun ?_ ?_
                      refine x_split 130 rfl (fun g7 => ?_) (fun g7 => ?_) <;> (try simp at g7)
                      · refine zrun ?_ ?_
                        exact nw_meet true (by repeat (first | exact True.intro | refine ⟨rfl, ?_⟩)) ⟨rfl, (fun _ h => by rcases h.full with h | h <;> simp_all), (fun e => by cases e)⟩
                      · skip
                        refine zrun ?_ ?_
                        refine x_load rfl rfl (hpmt (D6.d3)) rfl trivial ?_
                        refine zrun ?_ ?_
                        refine x_split 137 rfl (fun g8 => ?_) (fun g8 => ?_) <;> (try simp at g8)
                        · refine zrun ?_ ?_
                          exact nw_meet true (by repeat (first | exact True.intro | refine ⟨rfl, ?_⟩)) ⟨rfl, (fun _ h => by have h1 := h.two; have h2 := h.band; unfold bandC at h2; rw [← ho1] at h1; rw [wrap_i64 (by omega) (by omega)] at g8; omega), (fun e => by cases e)⟩
                        · refine zrun ?_ ?_
                          refine x_load rfl rfl (hpmt (D6.d0)) rfl trivial ?_
                          refine zrun ?_ ?_
                          refine x_load rfl rfl (hpmt (D6.d3)) rfl trivial ?_
                          refine zrun ?_ ?_
                          refine x_call rfl rfl rfl trivial (ref11_band (by omega) (by omega)) ?_
                          rintro _ _ ⟨rfl, e, rfl, he⟩
                          refine ⟨trivial, ?_⟩
                          refine zrun ?_ ?_
                          refine nw_meet _ (by repeat (first | exact True.intro | refine ⟨rfl, ?_⟩)) ⟨rfl, (fun e1 h => ?_), (fun e1 => ?_)⟩
                          · rw [he.2 h.band] at e1; cases e1
                          · have h2 := he.1 (by simpa using e1)
                            have h3 := h2
                            unfold bandC at h3
                            rw [wrap_i64 (by omega) (by omega)] at g8
                            exact ⟨g3, UInt8.toNat_inj.1 g4, hp0, .inr g7, by rw [← ho1]; omega, h2⟩
                    · skip
                      refine zrun ?_ ?_
                      refine x_load rfl rfl (hpmt (D6.d3)) rfl trivial ?_
                      refine zrun ?_ ?_
                      refine x_split 137 rfl (fun g8 => ?_) (fun g8 => ?_) <;> (try simp at g8)
                      · refine zrun ?_ ?_
                        exact nw_meet true (by repeat (first | exact True.intro | refine ⟨rfl, ?_⟩)) ⟨rfl, (fun _ h => by have h1 := h.two; have h2 := h.band; unfold bandC at h2; rw [← ho1] at h1; rw [wrap_i64 (by omega) (by omega)] at g8; omega), (fun e => by cases e)⟩
                      · refine zrun ?_ ?_
                        refine x_load rfl rfl (hpmt (D6.d0)) rfl trivial ?_
                        refine zrun ?_ ?_
                        refine x_load rfl rfl (hpmt (D6.d3)) rfl trivial ?_
                        refine zrun ?_ ?_
                        refine x_call rfl rfl rfl trivial (ref11_band (by omega) (by omega)) ?_
                        rintro _ _ ⟨rfl, e, rfl, he⟩
                        refine ⟨trivial, ?_⟩
                        refine zrun ?_ ?_
                        refine nw_meet _ (by repeat (first | exact True.intro | refine ⟨rfl, ?_⟩)) ⟨rfl, (fun e1 h => ?_), (fun e1 => ?_)⟩
                        · rw [he.2 h.band] at e1; cases e1
                        · have h2 := he.1 (by simpa using e1)
                          have h3 := h2
                          unfold bandC at h3
                          rw [wrap_i64 (by omega) (by omega)] at g8
                          exact ⟨g3, UInt8.toNat_inj.1 g4, hp0, .inl g6, by rw [← ho1]; omega, h2⟩
        rintro e _ ⟨rfl, ht, hfl⟩
        have hk06 := hk03.non_trans hk36
        have hB66 := hB63.keep hk36 (fun h => h)
        cases e with
        | true =>
          rw [if_neg (ht rfl)] at hRc
          refine zrun ?_ ?_
          refine x_build (cs := [.slice none 0 0, .int .i64 0, .int .i64 0, .bool false]) rfl rfl rfl ocp_nil rfl trivial ?_
          refine x_stores rfl rfl rfl rfl (by simp [oneC, Value.oneCell']) (hB66) (by simp [zR]) trivial ?_
          intro Hz hBz hkz hsz
          refine ⟨trivial, ?_⟩
          refine zrun ?_ ?_
          exact cw_retc rfl rfl rfl (hBz.cels 0 4 (by simp [putL, zR])) ⟨keep_at (hk06) hkz (Nat.le_refl _), .slice none 0 0, 0, 0, [], by rw [hRc]; rfl, RdV.nil _ _ _, Nat.zero_le _, fun x hx => by rw [hRc] at hx; cases hx⟩
        | false =>
          have hN := hfl rfl
          rw [if_pos hN] at hRc
          have hband := hN.band
          have htwo := hN.two
          unfold bandC at hband
          rw [← ho1] at htwo
          obtain ⟨N, hNN⟩ : ∃ N, N = c.kids.toNat := ⟨_, rfl⟩
          have hNk : (N : Int) = c.kids := by omega
          obtain ⟨res, hres⟩ : ∃ res, res = kidsR (rdR f l) l c.key N (begR c i) (-1) := ⟨_, rfl⟩
          rw [← hNN, ← hres] at hRc
          have hp0 : Part l i 1 (begR c i) := begR_part hc
          refine zrun ?_ ?_
          refine cw_loop (fun s : Nat × Int × PT × Value => [(0, vc), (1, .int .i64 i), (6, ptr H.size 0), (7, ptr H1.size 0), (10, ptr H3.size 0), (11, .int .i64 s.2.1), (12, .int .i64 s.1)]) (fun s H' => s.1 ≤ N ∧ kidsR (rdR f l) l c.key (N - s.1) s.2.2.1 s.2.1 = res ∧ Part l i 1 s.2.2.1 ∧ Keep Non H3 H' ∧ H5.size ≤ H'.size ∧ Blk H' H3.size [s.2.2.2, .int .i64 s.2.2.1.next, .int .i64 s.2.2.1.deep, .bool true] ∧ RdV B0 H5.size H' s.2.2.2 s.2.2.1.P) (fun s => N - s.1) (0, -1, begR c i, v0) (by repeat (first | exact True.intro | refine ⟨rfl, ?_⟩)) ⟨Nat.zero_le _, hres.symm, hp0, hk36, hs56, hB16, hV6⟩ ?_
          rintro ⟨k, last, r, v⟩ H7 ⟨hkN, hkr, hpart, hk37, hs57, hB17, hV7⟩
          simp only at hkN hkr hpart hB17 hV7 ⊢
          have D7 := D.keepN hk37
          have f0 : cel H7 H3.size 0 = some v := by rw [hB17.cel]; rfl
          have f1 : cel H7 H3.size 1 = some (.int .i64 r.next) := by rw [hB17.cel]; rfl
          have f2 : cel H7 H3.size 2 = some (.int .i64 r.deep) := by rw [hB17.cel]; rfl
          have hk07 := hk03.non_trans hk37
          have hC7 := CR.keepN hC hk07
          have hK7 := hK.keepN hk37
          have hB67 := hB63.keep hk37 (fun h => h)
          have hs7 := hk07.size
          have pl := hpart.lt
          have pe := hpart.le
          have pd := hpart.deep
          have pf := hpart.few
          refine zrunc ?_ ?_
          refine cw_cut (fun e : Bool => [(0, vc), (1, .int .i64 i), (6, ptr H.size 0), (7, ptr H1.size 0), (10, ptr H3.size 0), (11, .int .i64 last), (12, .int .i64 k), (153, .bool e)]) (fun e H' => H7 = H' ∧ e = decide (k < N)) ?_ ?_
          · refine zrun ?_ ?_
            refine x_load rfl rfl (hpmt (D7.d3)) rfl trivial ?_
            refine zrun ?_ ?_
            refine x_split 150 rfl (fun g5' => ?_) (fun g5' => ?_) <;> (try simp at g5')
            · refine zrun ?_ ?_
              exact nw_meet _ (by repeat (first | exact True.intro | refine ⟨rfl, ?_⟩)) ⟨rfl, decide_eq_decide.2 (by omega)⟩
            · refine zrun ?_ ?_
              exact nw_meet _ (by repeat (first | exact True.intro | refine ⟨rfl, ?_⟩)) ⟨rfl, (decide_eq_false (by omega)).symm⟩
          rintro e _ ⟨rfl, rfl⟩
          refine zrun ?_ ?_
          refine cw_cond rfl (fun hkN1 => ?_) (fun hkN1 => ?_) <;> (try simp at hkN1)
          · obtain ⟨m, hm⟩ : ∃ m, N - k = m + 1 := ⟨N - k - 1, by omega⟩
            rw [hm] at hkr
            unfold kidsR at hkr
            refine zrunc ?_ ?_
            refine cw_cut (fun e : Bool => [(0, vc), (1, .int .i64 i), (6, ptr H.size 0), (7, ptr H1.size 0), (10, ptr H3.size 0), (11, .int .i64 last), (12, .int .i64 k), (189, .bool e)]) (fun e H' => H7 = H' ∧ (e = true → none = res) ∧ (e = false → ∃ d, l[r.next]? = some d ∧ c.key.length < d.key.length ∧ last < ((d.key.getD c.key.length 0).toNat : Int))) ?_ ?_
            · refine cw_quiet mixed (by kernel_rfl) ?_
              refine zrun ?_ ?_
              refine x_load rfl rfl (hpmt (f1)) rfl trivial ?_
              refine zrun ?_ ?_
              refine x_split 161 rfl (fun q1 => ?_) (fun q1 => ?_) <;> (try simp at q1)
              · have hn : l[r.next]? = none := List.getElem?_eq_none (by omega)
                rw [hn] at hkr
                refine zrun ?_ ?_
                exact nw_meet true (by repeat (first | exact True.intro | refine ⟨rfl, ?_⟩)) ⟨rfl, (fun _ => hkr), (fun e => by cases e)⟩
              · obtain ⟨d, hd⟩ : ∃ d, l[r.next]? = some d := ⟨_, List.getElem?_eq_getElem (by omega)⟩
                rw [hd] at hkr
                simp only at hkr
                obtain ⟨x, hx, hxcel⟩ := Rd.cel hC7 encC_len hd
                have q7 : cel H7 (sb vc) (so vc + r.next * 9 + 7) = some x.2.1 := by rw [hxcel 7 (by omega)]; rfl
                have hX := hx.2.1.1
                have sX := hX.sl
                refine zrun ?_ ?_
                refine x_load rfl rfl (hpmt (f1)) rfl trivial ?_
                refine zrun ?_ ?_
                refine x_load rfl rfl (hpmt (q7)) rfl trivial ?_
                refine zrun ?_ ?_
                refine x_load rfl rfl (hpmt (D7.d7)) rfl trivial ?_
                refine zrun ?_ ?_
                refine x_split 174 rfl (fun q2 => ?_) (fun q2 => ?_) <;> (try simp at q2)
                · rw [if_neg (fun h => by omega)] at hkr
                  refine zrun ?_ ?_
                  exact nw_meet true (by repeat (first | exact True.intro | refine ⟨rfl, ?_⟩)) ⟨rfl, (fun _ => hkr), (fun e => by cases e)⟩
                · have hgb : d.key[c.key.length]? = some (d.key.getD c.key.length 0) := by
                    rw [List.getD_eq_getElem?_getD, List.getElem?_eq_getElem (by omega)]; rfl
                  have qb := hX.get _ _ hgb
                  refine zrun ?_ ?_
                  refine x_load rfl rfl (hpmt (f1)) rfl trivial ?_
                  refine zrun ?_ ?_
                  refine x_load rfl rfl (hpmt (q7)) rfl trivial ?_
                  refine zrun ?_ ?_
                  refine x_load rfl rfl (hpmt (D7.d7)) rfl trivial ?_
                  refine zrun ?_ ?_
                  refine x_load rfl rfl (hpmt qb) rfl trivial ?_
                  refine x_conv_int rfl rfl rfl trivial ?_
                  rw [wrap_i64 (by omega) (by have := (d.key.getD c.key.length 0).toNat_lt; omega)]
                  refine zrun ?_ ?_
                  refine nw_meet _ (by repeat (first | exact True.intro | refine ⟨rfl, ?_⟩)) ⟨rfl, (fun e => ?_), (fun e => ⟨d, hd, by omega, ?_⟩)⟩
                  · have := of_decide_eq_true e
                    rw [if_neg (fun h => by omega)] at hkr
                    exact hkr
                  · have := of_decide_eq_false e
                    omega
            rintro e _ ⟨rfl, ht, hfl⟩
            cases e with
            | true =>
              have hnone := ht rfl
              rw [← hnone] at hRc
              have hz : R = none := hRc
              refine zrun ?_ ?_
              refine x_build (cs := [.slice none 0 0, .int .i64 0, .int .i64 0, .bool false]) rfl rfl rfl ocp_nil rfl trivial ?_
              refine x_stores rfl rfl rfl rfl (by simp [oneC, Value.oneCell']) (hB67) (by simp [zR]) trivial ?_
              intro Hz hBz hkz hsz
              refine ⟨trivial, ?_⟩
              refine zrun ?_ ?_
              exact cw_retc rfl rfl rfl (hBz.cels 0 4 (by simp [putL, zR])) ⟨keep_at (hk07) hkz (Nat.le_refl _), .slice none 0 0, 0, 0, [], by rw [hz]; rfl, RdV.nil _ _ _, Nat.zero_le _, fun x hx => by rw [hz] at hx; cases hx⟩
            | false =>
              obtain ⟨d, hd, hdl, hlast⟩ := hfl rfl
              rw [hd] at hkr
              simp only at hkr
              rw [if_pos ⟨hdl, hlast⟩] at hkr
              have hgb : d.key[c.key.length]? = some (d.key.getD c.key.length 0) := by
                rw [List.getD_eq_getElem?_getD, List.getElem?_eq_getElem (by omega)]; rfl
              obtain ⟨b, hb⟩ : ∃ b, b = d.key.getD c.key.length 0 := ⟨_, rfl⟩
              rw [← hb] at hkr hgb
              have hb256 := b.toNat_lt
              have hnlt := (List.getElem?_eq_some_iff.1 hd).1
              obtain ⟨x, hx, hxcel⟩ := Rd.cel hC7 encC_len hd
              have q7 : cel H7 (sb vc) (so vc + r.next * 9 + 7) = some x.2.1 := by rw [hxcel 7 (by omega)]; rfl
              have hX := hx.2.1.1
              have sX := hX.sl
              have qb := hX.get _ _ hgb
              refine zrunc ?_ ?_
              refine cw_cut (fun _ : Unit => [(0, vc), (1, .int .i64 i), (6, ptr H.size 0), (7, ptr H1.size 0), (10, ptr H3.size 0), (11, .int .i64 (b.toNat : Int)), (12, .int .i64 k)]) (fun _ H' => H7 = H') ?_ ?_
              · refine cw_quiet mixed (by kernel_rfl) ?_
                refine zrun ?_ ?_
                refine x_load rfl rfl (hpmt (f1)) rfl trivial ?_
                refine zrun ?_ ?_
                refine x_load rfl rfl (hpmt (q7)) rfl trivial ?_
                refine zrun ?_ ?_
                refine x_load rfl rfl (hpmt (D7.d7)) rfl trivial ?_
                refine zrun ?_ ?_
                refine x_load rfl rfl (hpmt qb) rfl trivial ?_
                refine x_conv_int rfl rfl rfl trivial ?_
                rw [wrap_i64 (by omega) (by omega)]
                refine zrun ?_ ?_
                exact nw_meet () (by repeat (first | exact True.intro | refine ⟨rfl, ?_⟩)) rfl
              rintro _ _ rfl
              have hkr7 := Keep.refl Non H7
              have sK7 := hK7.sl
              have cK7 := sK7.cap
              obtain ⟨X, hX'⟩ : ∃ X, X = rdR f l r.next (c.key ++ [b]) := ⟨_, rfl⟩
              refine zrunc ?_ ?_
              refine cw_cut (fun s : Nat × Value => [(0, vc), (1, .int .i64 i), (6, ptr H.size 0), (7, ptr H1.size 0), (10, ptr H3.size 0), (11, .int .i64 (b.toNat : Int)), (12, .int .i64 k), (13, ptr s.1 0)]) (fun s H' => Keep Non H7 H' ∧ (∃ nx dx Px, Blk H' s.1 [s.2, .int .i64 nx, .int .i64 dx, .bool (rdR f l r.next (c.key ++ [b])).isSome] ∧ RdV B0 H7.size H' s.2 Px ∧ Px.length ≤ 1000000 ∧ ∀ x, rdR f l r.next (c.key ++ [b]) = some x → nx = (x.next : Int) ∧ dx = (x.deep : Int) ∧ Px = x.P) ∧ H7.size ≤ s.1) ?_ ?_
              · refine cw_held (fun _ => Keep Non H7) ⟨[5, 8, 9, 10, 11, 12], [(2, 0), (4, 0)]⟩ (.op 0 (.op 1 (.op 2 (.op 3 (.op 4 (.op 6 (.op 7 (.alt (.op 5 (.alt (.op 8 (.alt (.op 9 (.alt (.op 10 (.op 11 (.op 12 (.nil)))) (.op 11 (.op 10 (.op 12 (.nil)))))) (.op 11 (.op 9 (.op 10 (.op 12 (.nil))))))) (.op 11 (.op 8 (.op 9 (.op 10 (.op 12 (.nil)))))))) (.alt (.op 8 (.alt (.op 5 (.alt (.op 9 (.alt (.op 10 (.op 11 (.op 12 (.nil)))) (.op 11 (.op 10 (.op 12 (.nil)))))) (.op 11 (.op 9 (.op 10 (.op 12 (.nil))))))) (.op 11 (.op 5 (.op 9 (.op 10 (.op 12 (.nil)))))))) (.op 11 (.alt (.op 5 (.op 8 (.op 9 (.op 10 (.op 12 (.nil)))))) (.op 8 (.op 5 (.op 9 (.op 10 (.op 12 (.nil))))))))))))))))) panicOk_body mixed (by kernel_rfl) ?_
                refine zhrun ?_ ?_
                refine x_load rfl rfl (hpmk rfl (fun _ hk => hk.cel f1 (fun h => h))) rfl (okq_load rfl rfl (by assumption)) ?_
                refine zhrun ?_ ?_
                refine x_load rfl rfl (hpmk rfl (fun _ hk => hk.cel D7.d7 (fun h => h))) rfl (okq_load rfl rfl (by assumption)) ?_
                refine zhrun ?_ ?_
                refine x_conv_int rfl rfl rfl (okq_reg rfl rfl) ?_
                rw [show IntKind.u8.wrap (b.toNat : Int) = (b.toNat : Int) by rw [wrap_u8_mod]; omega]
                refine zhrun ?_ ?_
                refine x_alt ?_ (x_alt ?_ ?_)
                · refine x_append (by rfl) (by rfl) (by rfl) rfl rfl rfl (Own.nil 1 H7) sK7 (by rw [bvs_length, Nat.mul_one]) (hK7.keepN hkr7).at_ (bvs_oneC _) (by omega) rfl ⟨rfl, rfl⟩ ?_
                  intro vA HA hapA
                  refine ⟨okm_keep (hapA.old (Fresh.nil H7) (Keep.refl _ _)) (fun _ _ h => h), ?_⟩
                  have kA : Keep Non H7 HA := hapA.old (Fresh.nil H7) hkr7
                  have kA' : Keep Non H7 HA := hapA.old (Fresh.nil H7) (Keep.refl _ _)
                  have fA : 0 < sc vA → H7.size ≤ sb vA := hapA.fresh (Fresh.nil H7) hkr7.size
                  have fA' : 0 < sc vA → H7.size ≤ sb vA := hapA.fresh (Fresh.nil H7) (Nat.le_refl _)
                  have oA : Own 1 HA vA c.key.length (bvs c.key) := by simpa using hapA.own
                  refine zhrun ?_ ?_
                  refine x_alt ?_ ?_
                  · refine x_buildSlice rfl rfl rfl rfl (by omega) (by simp [oneC, Value.oneCell']) rfl ⟨rfl, rfl⟩ ?_
                    intro HB hnB
                    refine ⟨okm_keep hnB.keep (fun _ _ h => h), ?_⟩
                    have kB : Keep Non H7 HB := hnB.old kA
                    have bB : Blk HB HA.size [kb b] := hnB.blk
                    have oA := oA.keep (S := Non) hnB.keep (fun _ h => h)
                    refine zhrun ?_ ?_
                    refine x_alt ?_ ?_
                    · refine x_append (by rfl) (by rfl) (by rfl) rfl rfl rfl oA (isSl_some (Nat.le_refl _) (by omega)) (m := 1) (cx := [kb b]) rfl (bB.cels 0 1 (by simp)) (by simp [oneC, Value.oneCell']) (by omega) rfl ⟨rfl, rfl⟩ ?_
                      intro vC HC hapC
                      refine ⟨okm_keep hapC.keep (fun z hz e => by have := fA (by have := e.2; omega); have := e.1; omega), ?_⟩
                      have kC : Keep Non H7 HC := hapC.old fA kB
                      have bsC : Bs HC vC (c.key ++ [b]) := (show Own 1 HC vC (c.key ++ [b]).length (bvs (c.key ++ [b])) by rw [bvs_append, List.length_append]; exact hapC.own).bs
                      refine zhrun ?_ ?_
                      refine x_alt ?_ ?_
                      · refine x_call rfl rfl rfl ⟨rfl, rfl⟩ (ih (i := r.next) (way := c.key ++ [b]) (by omega) (by omega) (CR.keepN hC7 kC) bsC (by have := kC.size; omega)) ?_
                        rintro _ HD ⟨hkD, vx, nx, dx, Px, rfl, hVx, hPxl, hxx⟩
                        refine ⟨okm_keep hkD (fun _ _ h => h), ?_⟩
                        have kD : Keep Non H7 HD := kC.non_trans hkD
                        have szD : H7.size ≤ HC.size := kC.size
                        refine zhrun ?_ ?_
                        refine x_alloc rfl rfl ⟨rfl, rfl⟩ ?_
                        intro HE hnE
                        refine ⟨okm_keep hnE.keep (fun _ _ h => h), ?_⟩
                        have kE : Keep Non H7 HE := hnE.old kD
                        have geE : H7.size ≤ HD.size := kD.size
                        have bE : Blk HE HD.size zR := hnE.blk
                        have ltV : 0 < sc vx → sb vx < _ := fun hc => let ⟨_, o, _⟩ := hVx.row; o.lt hc
                        have hVx := hVx.keepN hnE.keep
                        refine zhrun ?_ ?_
                        have sVx := hVx.ps.sl
                        refine x_stores rfl rfl rfl rfl (oc_cons (isSl_oneC sVx) (oc_cons rfl (oc_cons rfl (oc_cons rfl oc_nil)))) bE (by simp [zR]) ⟨rfl, rfl⟩ ?_
                        intro HS hBS hkS hsS
                        have aeq : ∀ z, z = HD.size → H7.size ≤ z := fun z e => by omega
                        refine ⟨okm_keep hkS (fun z hz e => by have := aeq z e; omega), ?_⟩
                        refine zhrun ?_ ?_
                        refine zrun ?_ ?_
                        exact nw_meet (HD.size, vx) (by repeat (first | exact True.intro | refine ⟨rfl, ?_⟩)) ⟨keep_at kE hkS geE, ⟨nx, dx, Px, hBS, (hVx.mono szD).keep hkS (fun hc e => by have := ltV hc; have e : sb vx = HD.size := e; omega) (fun z hz e => by have := aeq z e; omega), hPxl, hxx⟩, geE⟩
                      · refine x_alloc rfl rfl ⟨rfl, rfl⟩ ?_
                        intro HE hnE
                        refine ⟨okm_keep hnE.keep (fun _ _ h => h), ?_⟩
                        have kE : Keep Non H7 HE := hnE.old kC
                        have geE : H7.size ≤ HC.size := kC.size
                        have bE : Blk HE HC.size zR := hnE.blk
                        have bsC := bsC.keepN hnE.keep
                        refine zhrun ?_ ?_
                        refine x_call rfl rfl rfl ⟨rfl, rfl⟩ (ih (i := r.next) (way := c.key ++ [b]) (by omega) (by omega) (CR.keepN hC7 kE) bsC (by have := kE.size; omega)) ?_
                        rintro _ HD ⟨hkD, vx, nx, dx, Px, rfl, hVx, hPxl, hxx⟩
                        refine ⟨okm_keep hkD (fun _ _ h => h), ?_⟩
                        have kD : Keep Non H7 HD := kE.non_trans hkD
                        have szD : H7.size ≤ HE.size := kE.size
                        have ltE2 := bE.lt
                        have bE := bE.keep hkD (fun h => h)
                        refine zhrun ?_ ?_
                        have sVx := hVx.ps.sl
                        refine x_stores rfl rfl rfl rfl (oc_cons (isSl_oneC sVx) (oc_cons rfl (oc_cons rfl (oc_cons rfl oc_nil)))) bE (by simp [zR]) ⟨rfl, rfl⟩ ?_
                        intro HS hBS hkS hsS
                        have aeq : ∀ z, z = HC.size → H7.size ≤ z := fun z e => by omega
                        refine ⟨okm_keep hkS (fun z hz e => by have := aeq z e; omega), ?_⟩
                        refine zhrun ?_ ?_
                        refine zrun ?_ ?_
                        exact nw_meet (HC.size, vx) (by repeat (first | exact True.intro | refine ⟨rfl, ?_⟩)) ⟨keep_at kD hkS geE, ⟨nx, dx, Px, hBS, (hVx.mono szD).keep hkS (fun hc e => by have := hVx.fresh hc; have e : sb vx = HC.size := e; omega) (fun z hz e => by have := aeq z e; omega), hPxl, hxx⟩, geE⟩
                    · refine x_alloc rfl rfl ⟨rfl, rfl⟩ ?_
                      intro HE hnE
                      refine ⟨okm_keep hnE.keep (fun _ _ h => h), ?_⟩
                      have kE : Keep Non H7 HE := hnE.old kB
                      have geE : H7.size ≤ HB.size := kB.size
                      have bE : Blk HE HB.size zR := hnE.blk
                      have ltA : 0 < sc vA → sb vA < _ := fun hc => oA.lt hc
                      have oA := oA.keep (S := Non) hnE.keep (fun _ h => h)
                      have bB := bB.keep (S := Non) hnE.keep (fun h => h)
                      refine zhrun ?_ ?_
                      refine x_append (by rfl) (by rfl) (by rfl) rfl rfl rfl oA (isSl_some (Nat.le_refl _) (by omega)) (m := 1) (cx := [kb b]) rfl (bB.cels 0 1 (by simp)) (by simp [oneC, Value.oneCell']) (by omega) rfl ⟨rfl, rfl⟩ ?_
                      intro vC HC hapC
                      refine ⟨okm_keep hapC.keep (fun z hz e => by have := fA (by have := e.2; omega); have := e.1; omega), ?_⟩
                      have kC : Keep Non H7 HC := hapC.old fA kE
                      have bsC : Bs HC vC (c.key ++ [b]) := (show Own 1 HC vC (c.key ++ [b]).length (bvs (c.key ++ [b])) by rw [bvs_append, List.length_append]; exact hapC.own).bs
                      have bE := bE.keep hapC.keep (fun e => by have := ltA (by have := e.2; omega); have := e.1; omega)
                      refine zhrun ?_ ?_
                      refine x_call rfl rfl rfl ⟨rfl, rfl⟩ (ih (i := r.next) (way := c.key ++ [b]) (by omega) (by omega) (CR.keepN hC7 kC) bsC (by have := kC.size; omega)) ?_
                      rintro _ HD ⟨hkD, vx, nx, dx, Px, rfl, hVx, hPxl, hxx⟩
                      refine ⟨okm_keep hkD (fun _ _ h => h), ?_⟩
                      have kD : Keep Non H7 HD := kC.non_trans hkD
                      have szD : H7.size ≤ HC.size := kC.size
                      have ltE2 := bE.lt
                      have bE := bE.keep hkD (fun h => h)
                      refine zhrun ?_ ?_
                      have sVx := hVx.ps.sl
                      refine x_stores rfl rfl rfl rfl (oc_cons (isSl_oneC sVx) (oc_cons rfl (oc_cons rfl (oc_cons rfl oc_nil)))) bE (by simp [zR]) ⟨rfl, rfl⟩ ?_
                      intro HS hBS hkS hsS
                      have aeq : ∀ z, z = HB.size → H7.size ≤ z := fun z e => by omega
                      refine ⟨okm_keep hkS (fun z hz e => by have := aeq z e; omega), ?_⟩
                      refine zhrun ?_ ?_
                      refine zrun ?_ ?_
                      exact nw_meet (HB.size, vx) (by repeat (first | exact True.intro | refine ⟨rfl, ?_⟩)) ⟨keep_at kD hkS geE, ⟨nx, dx, Px, hBS, (hVx.mono szD).keep hkS (fun hc e => by have := hVx.fresh hc; have e : sb vx = HB.size := e; omega) (fun z hz e => by have := aeq z e; omega), hPxl, hxx⟩, geE⟩
                  · refine x_alloc rfl rfl ⟨rfl, rfl⟩ ?_
                    intro HE hnE
                    refine ⟨okm_keep hnE.keep (fun _ _ h => h), ?_⟩
                    have kE : Keep Non H7 HE := hnE.old kA
                    have geE : H7.size ≤ HA.size := kA.size
                    have bE : Blk HE HA.size zR := hnE.blk
                    have ltA : 0 < sc vA → sb vA < _ := fun hc => oA.lt hc
                    have oA := oA.keep (S := Non) hnE.keep (fun _ h => h)
                    refine zhrun ?_ ?_
                    refine x_buildSlice rfl rfl rfl rfl (by omega) (by simp [oneC, Value.oneCell']) rfl ⟨rfl, rfl⟩ ?_
                    intro HB hnB
                    refine ⟨okm_keep hnB.keep (fun _ _ h => h), ?_⟩
                    have kB : Keep Non H7 HB := hnB.old kE
                    have bB : Blk HB HE.size [kb b] := hnB.blk
                    have oA := oA.keep (S := Non) hnB.keep (fun _ h => h)
                    have bE := bE.keep (S := Non) hnB.keep (fun h => h)
                    refine zhrun ?_ ?_
                    refine x_append (by rfl) (by rfl) (by rfl) rfl rfl rfl oA (isSl_some (Nat.le_refl _) (by omega)) (m := 1) (cx := [kb b]) rfl (bB.cels 0 1 (by simp)) (by simp [oneC, Value.oneCell']) (by omega) rfl ⟨rfl, rfl⟩ ?_
                    intro vC HC hapC
                    refine ⟨okm_keep hapC.keep (fun z hz e => by have := fA (by have := e.2; omega); have := e.1; omega), ?_⟩
                    have kC : Keep Non H7 HC := hapC.old fA kB
                    have bsC : Bs HC vC (c.key ++ [b]) := (show Own 1 HC vC (c.key ++ [b]).length (bvs (c.key ++ [b])) by rw [bvs_append, List.length_append]; exact hapC.own).bs
                    have bE := bE.keep hapC.keep (fun e => by have := ltA (by have := e.2; omega); have := e.1; omega)
                    refine zhrun ?_ ?_
                    refine x_call rfl rfl rfl ⟨rfl, rfl⟩ (ih (i := r.next) (way := c.key ++ [b]) (by omega) (by omega) (CR.keepN hC7 kC) bsC (by have := kC.size; omega)) ?_
                    rintro _ HD ⟨hkD, vx, nx, dx, Px, rfl, hVx, hPxl, hxx⟩
                    refine ⟨okm_keep hkD (fun _ _ h => h), ?_⟩
                    have kD : Keep Non H7 HD := kC.non_trans hkD
                    have szD : H7.size ≤ HC.size := kC.size
                    have ltE2 := bE.lt
                    have bE := bE.keep hkD (fun h => h)
                    refine zhrun ?_ ?_
                    have sVx := hVx.ps.sl
                    refine x_stores rfl rfl rfl rfl (oc_cons (isSl_oneC sVx) (oc_cons rfl (oc_cons rfl (oc_cons rfl oc_nil)))) bE (by simp [zR]) ⟨rfl, rfl⟩ ?_
                    intro HS hBS hkS hsS
                    have aeq : ∀ z, z = HA.size → H7.size ≤ z := fun z e => by omega
                    refine ⟨okm_keep hkS (fun z hz e => by have := aeq z e; omega), ?_⟩
                    refine zhrun ?_ ?_
                    refine zrun ?_ ?_
                    exact nw_meet (HA.size, vx) (by repeat (first | exact True.intro | refine ⟨rfl, ?_⟩)) ⟨keep_at kD hkS geE, ⟨nx, dx, Px, hBS, (hVx.mono szD).keep hkS (fun hc e => by have := hVx.fresh hc; have e : sb vx = HA.size := e; omega) (fun z hz e => by have := aeq z e; omega), hPxl, hxx⟩, geE⟩
                · refine x_buildSlice rfl rfl rfl rfl (by omega) (by simp [oneC, Value.oneCell']) rfl ⟨rfl, rfl⟩ ?_
                  intro HB hnB
                  refine ⟨okm_keep hnB.keep (fun _ _ h => h), ?_⟩
                  have kB : Keep Non H7 HB := hnB.old hkr7
                  have bB : Blk HB H7.size [kb b] := hnB.blk
                  refine zhrun ?_ ?_
                  refine x_alt ?_ ?_
                  · refine x_append (by rfl) (by rfl) (by rfl) rfl rfl rfl (Own.nil 1 HB) sK7 (by rw [bvs_length, Nat.mul_one]) (hK7.keepN kB).at_ (bvs_oneC _) (by omega) rfl ⟨rfl, rfl⟩ ?_
                    intro vA HA hapA
                    refine ⟨okm_keep (hapA.old (Fresh.nil HB) (Keep.refl _ _)) (fun _ _ h => h), ?_⟩
                    have kA : Keep Non H7 HA := hapA.old (Fresh.nil H7) kB
                    have kA' : Keep Non HB HA := hapA.old (Fresh.nil HB) (Keep.refl _ _)
                    have fA : 0 < sc vA → H7.size ≤ sb vA := hapA.fresh (Fresh.nil H7) kB.size
                    have fA' : 0 < sc vA → HB.size ≤ sb vA := hapA.fresh (Fresh.nil HB) (Nat.le_refl _)
                    have oA : Own 1 HA vA c.key.length (bvs c.key) := by simpa using hapA.own
                    have bB := bB.keep kA' (fun h => h)
                    refine zhrun ?_ ?_
                    refine x_alt ?_ ?_
                    · refine x_append (by rfl) (by rfl) (by rfl) rfl rfl rfl oA (isSl_some (Nat.le_refl _) (by omega)) (m := 1) (cx := [kb b]) rfl (bB.cels 0 1 (by simp)) (by simp [oneC, Value.oneCell']) (by omega) rfl ⟨rfl, rfl⟩ ?_
                      intro vC HC hapC
                      refine ⟨okm_keep hapC.keep (fun z hz e => by have := fA (by have := e.2; omega); have := e.1; omega), ?_⟩
                      have kC : Keep Non H7 HC := hapC.old fA kA
                      have bsC : Bs HC vC (c.key ++ [b]) := (show Own 1 HC vC (c.key ++ [b]).length (bvs (c.key ++ [b])) by rw [bvs_append, List.length_append]; exact hapC.own).bs
                      refine zhrun ?_ ?_
                      refine x_alt ?_ ?_
                      · refine x_call rfl rfl rfl ⟨rfl, rfl⟩ (ih (i := r.next) (way := c.key ++ [b]) (by omega) (by omega) (CR.keepN hC7 kC) bsC (by have := kC.size; omega)) ?_
                        rintro _ HD ⟨hkD, vx, nx, dx, Px, rfl, hVx, hPxl, hxx⟩
                        refine ⟨okm_keep hkD (fun _ _ h => h), ?_⟩
                        have kD : Keep Non H7 HD := kC.non_trans hkD
                        have szD : H7.size ≤ HC.size := kC.size
                        refine zhrun ?_ ?_
                        refine x_alloc rfl rfl ⟨rfl, rfl⟩ ?_
                        intro HE hnE
                        refine ⟨okm_keep hnE.keep (fun _ _ h => h), ?_⟩
                        have kE : Keep Non H7 HE := hnE.old kD
                        have geE : H7.size ≤ HD.size := kD.size
                        have bE : Blk HE HD.size zR := hnE.blk
                        have ltV : 0 < sc vx → sb vx < _ := fun hc => let ⟨_, o, _⟩ := hVx.row; o.lt hc
                        have hVx := hVx.keepN hnE.keep
                        refine zhrun ?_ ?_
                        have sVx := hVx.ps.sl
                        refine x_stores rfl rfl rfl rfl (oc_cons (isSl_oneC sVx) (oc_cons rfl (oc_cons rfl (oc_cons rfl oc_nil)))) bE (by simp [zR]) ⟨rfl, rfl⟩ ?_
                        intro HS hBS hkS hsS
                        have aeq : ∀ z, z = HD.size → H7.size ≤ z := fun z e => by omega
                        refine ⟨okm_keep hkS (fun z hz e => by have := aeq z e; omega), ?_⟩
                        refine zhrun ?_ ?_
                        refine zrun ?_ ?_
                        exact nw_meet (HD.size, vx) (by repeat (first | exact True.intro | refine ⟨rfl, ?_⟩)) ⟨keep_at kE hkS geE, ⟨nx, dx, Px, hBS, (hVx.mono szD).keep hkS (fun hc e => by have := ltV hc; have e : sb vx = HD.size := e; omega) (fun z hz e => by have := aeq z e; omega), hPxl, hxx⟩, geE⟩
                      · refine x_alloc rfl rfl ⟨rfl, rfl⟩ ?_
                        intro HE hnE
                        refine ⟨okm_keep hnE.keep (fun _ _ h => h), ?_⟩
                        have kE : Keep Non H7 HE := hnE.old kC
                        have geE : H7.size ≤ HC.size := kC.size
                        have bE : Blk HE HC.size zR := hnE.blk
                        have bsC := bsC.keepN hnE.keep
                        refine zhrun ?_ ?_
                        refine x_call rfl rfl rfl ⟨rfl, rfl⟩ (ih (i := r.next) (way := c.key ++ [b]) (by omega) (by omega) (CR.keepN hC7 kE) bsC (by have := kE.size; omega)) ?_
                        rintro _ HD ⟨hkD, vx, nx, dx, Px, rfl, hVx, hPxl, hxx⟩
                        refine ⟨okm_keep hkD (fun _ _ h => h), ?_⟩
                        have kD : Keep Non H7 HD := kE.non_trans hkD
                        have szD : H7.size ≤ HE.size := kE.size
                        have ltE2 := bE.lt
                        have bE := bE.keep hkD (fun h => h)
                        refine zhrun ?_ ?_
                        have sVx := hVx.ps.sl
                        refine x_stores rfl rfl rfl rfl (oc_cons (isSl_oneC sVx) (oc_cons rfl (oc_cons rfl (oc_cons rfl oc_nil)))) bE (by simp [zR]) ⟨rfl, rfl⟩ ?_
                        intro HS hBS hkS hsS
                        have aeq : ∀ z, z = HC.size → H7.size ≤ z := fun z e => by omega
                        refine ⟨okm_keep hkS (fun z hz e => by have := aeq z e; omega), ?_⟩
                        refine zhrun ?_ ?_
                        refine zrun ?_ ?_
                        exact nw_meet (HC.size, vx) (by repeat (first | exact True.intro | refine ⟨rfl, ?_⟩)) ⟨keep_at kD hkS geE, ⟨nx, dx, Px, hBS, (hVx.mono szD).keep hkS (fun hc e => by have := hVx.fresh hc; have e : sb vx = HC.size := e; omega) (fun z hz e => by have := aeq z e; omega), hPxl, hxx⟩, geE⟩
                    · refine x_alloc rfl rfl ⟨rfl, rfl⟩ ?_
                      intro HE hnE
                      refine ⟨okm_keep hnE.keep (fun _ _ h => h), ?_⟩
                      have kE : Keep Non H7 HE := hnE.old kA
                      have geE : H7.size ≤ HA.size := kA.size
                      have bE : Blk HE HA.size zR := hnE.blk
                      have ltA : 0 < sc vA → sb vA < _ := fun hc => oA.lt hc
                      have oA := oA.keep (S := Non) hnE.keep (fun _ h => h)
                      have bB := bB.keep (S := Non) hnE.keep (fun h => h)
                      refine zhrun ?_ ?_
                      refine x_append (by rfl) (by rfl) (by rfl) rfl rfl rfl oA (isSl_some (Nat.le_refl _) (by omega)) (m := 1) (cx := [kb b]) rfl (bB.cels 0 1 (by simp)) (by simp [oneC, Value.oneCell']) (by omega) rfl ⟨rfl, rfl⟩ ?_
                      intro vC HC hapC
                      refine ⟨okm_keep hapC.keep (fun z hz e => by have := fA (by have := e.2; omega); have := e.1; omega), ?_⟩
                      have kC : Keep Non H7 HC := hapC.old fA kE
                      have bsC : Bs HC vC (c.key ++ [b]) := (show Own 1 HC vC (c.key ++ [b]).length (bvs (c.key ++ [b])) by rw [bvs_append, List.length_append]; exact hapC.own).bs
                      have bE := bE.keep hapC.keep (fun e => by have := ltA (by have := e.2; omega); have := e.1; omega)
                      refine zhrun ?_ ?_
                      refine x_call rfl rfl rfl ⟨rfl, rfl⟩ (ih (i := r.next) (way := c.key ++ [b]) (by omega) (by omega) (CR.keepN hC7 kC) bsC (by have := kC.size; omega)) ?_
                      rintro _ HD ⟨hkD, vx, nx, dx, Px, rfl, hVx, hPxl, hxx⟩
                      refine ⟨okm_keep hkD (fun _ _ h => h), ?_⟩
                      have kD : Keep Non H7 HD := kC.non_trans hkD
                      have szD : H7.size ≤ HC.size := kC.size
                      have ltE2 := bE.lt
                      have bE := bE.keep hkD (fun h => h)
                      refine zhrun ?_ ?_
                      have sVx := hVx.ps.sl
                      refine x_stores rfl rfl rfl rfl (oc_cons (isSl_oneC sVx) (oc_cons rfl (oc_cons rfl (oc_cons rfl oc_nil)))) bE (by simp [zR]) ⟨rfl, rfl⟩ ?_
                      intro HS hBS hkS hsS
                      have aeq : ∀ z, z = HA.size → H7.size ≤ z := fun z e => by omega
                      refine ⟨okm_keep hkS (fun z hz e => by have := aeq z e; omega), ?_⟩
                      refine zhrun ?_ ?_
                      refine zrun ?_ ?_
                      exact nw_meet (HA.size, vx) (by repeat (first | exact True.intro | refine ⟨rfl, ?_⟩)) ⟨keep_at kD hkS geE, ⟨nx, dx, Px, hBS, (hVx.mono szD).keep hkS (fun hc e => by have := hVx.fresh hc; have e : sb vx = HA.size := e; omega) (fun z hz e => by have := aeq z e; omega), hPxl, hxx⟩, geE⟩
                  · refine x_alloc rfl rfl ⟨rfl, rfl⟩ ?_
                    intro HE hnE
                    refine ⟨okm_keep hnE.keep (fun _ _ h => h), ?_⟩
                    have kE : Keep Non H7 HE := hnE.old kB
                    have geE : H7.size ≤ HB.size := kB.size
                    have bE : Blk HE HB.size zR := hnE.blk
                    have bB := bB.keep (S := Non) hnE.keep (fun h => h)
                    refine zhrun ?_ ?_
                    refine x_append (by rfl) (by rfl) (by rfl) rfl rfl rfl (Own.nil 1 HE) sK7 (by rw [bvs_length, Nat.mul_one]) (hK7.keepN kE).at_ (bvs_oneC _) (by omega) rfl ⟨rfl, rfl⟩ ?_
                    intro vA HA hapA
                    refine ⟨okm_keep (hapA.old (Fresh.nil HE) (Keep.refl _ _)) (fun _ _ h => h), ?_⟩
                    have kA : Keep Non H7 HA := hapA.old (Fresh.nil H7) kE
                    have kA' : Keep Non HE HA := hapA.old (Fresh.nil HE) (Keep.refl _ _)
                    have fA : 0 < sc vA → H7.size ≤ sb vA := hapA.fresh (Fresh.nil H7) kE.size
                    have fA' : 0 < sc vA → HE.size ≤ sb vA := hapA.fresh (Fresh.nil HE) (Nat.le_refl _)
                    have oA : Own 1 HA vA c.key.length (bvs c.key) := by simpa using hapA.own
                    have bB := bB.keep kA' (fun h => h)
                    have ltE := bE.lt
                    have bE := bE.keep kA' (fun h => h)
                    refine zhrun ?_ ?_
                    refine x_append (by rfl) (by rfl) (by rfl) rfl rfl rfl oA (isSl_some (Nat.le_refl _) (by omega)) (m := 1) (cx := [kb b]) rfl (bB.cels 0 1 (by simp)) (by simp [oneC, Value.oneCell']) (by omega) rfl ⟨rfl, rfl⟩ ?_
                    intro vC HC hapC
                    refine ⟨okm_keep hapC.keep (fun z hz e => by have := fA (by have := e.2; omega); have := e.1; omega), ?_⟩
                    have kC : Keep Non H7 HC := hapC.old fA kA
                    have bsC : Bs HC vC (c.key ++ [b]) := (show Own 1 HC vC (c.key ++ [b]).length (bvs (c.key ++ [b])) by rw [bvs_append, List.length_append]; exact hapC.own).bs
                    have bE := bE.keep hapC.keep (fun e => by have := fA' (by have := e.2; omega); have := e.1; omega)
                    refine zhrun ?_ ?_
                    refine x_call rfl rfl rfl ⟨rfl, rfl⟩ (ih (i := r.next) (way := c.key ++ [b]) (by omega) (by omega) (CR.keepN hC7 kC) bsC (by have := kC.size; omega)) ?_
                    rintro _ HD ⟨hkD, vx, nx, dx, Px, rfl, hVx, hPxl, hxx⟩
                    refine ⟨okm_keep hkD (fun _ _ h => h), ?_⟩
                    have kD : Keep Non H7 HD := kC.non_trans hkD
                    have szD : H7.size ≤ HC.size := kC.size
                    have ltE2 := bE.lt
                    have bE := bE.keep hkD (fun h => h)
                    refine zhrun ?_ ?_
                    have sVx := hVx.ps.sl
                    refine x_stores rfl rfl rfl rfl (oc_cons (isSl_oneC sVx) (oc_cons rfl (oc_cons rfl (oc_cons rfl oc_nil)))) bE (by simp [zR]) ⟨rfl, rfl⟩ ?_
                    intro HS hBS hkS hsS
                    have aeq : ∀ z, z = HB.size → H7.size ≤ z := fun z e => by omega
                    refine ⟨okm_keep hkS (fun z hz e => by have := aeq z e; omega), ?_⟩
                    refine zhrun ?_ ?_
                    refine zrun ?_ ?_
                    exact nw_meet (HB.size, vx) (by repeat (first | exact True.intro | refine ⟨rfl, ?_⟩)) ⟨keep_at kD hkS geE, ⟨nx, dx, Px, hBS, (hVx.mono szD).keep hkS (fun hc e => by have := hVx.fresh hc; have e : sb vx = HB.size := e; omega) (fun z hz e => by have := aeq z e; omega), hPxl, hxx⟩, geE⟩
                · refine x_alloc rfl rfl ⟨rfl, rfl⟩ ?_
                  intro HE hnE
                  refine ⟨okm_keep hnE.keep (fun _ _ h => h), ?_⟩
                  have kE : Keep Non H7 HE := hnE.old hkr7
                  have geE : H7.size ≤ H7.size := hkr7.size
                  have bE : Blk HE H7.size zR := hnE.blk
                  refine zhrun ?_ ?_
                  refine x_alt ?_ ?_
                  · refine x_append (by rfl) (by rfl) (by rfl) rfl rfl rfl (Own.nil 1 HE) sK7 (by rw [bvs_length, Nat.mul_one]) (hK7.keepN kE).at_ (bvs_oneC _) (by omega) rfl ⟨rfl, rfl⟩ ?_
                    intro vA HA hapA
                    refine ⟨okm_keep (hapA.old (Fresh.nil HE) (Keep.refl _ _)) (fun _ _ h => h), ?_⟩
                    have kA : Keep Non H7 HA := hapA.old (Fresh.nil H7) kE
                    have kA' : Keep Non HE HA := hapA.old (Fresh.nil HE) (Keep.refl _ _)
                    have fA : 0 < sc vA → H7.size ≤ sb vA := hapA.fresh (Fresh.nil H7) kE.size
                    have fA' : 0 < sc vA → HE.size ≤ sb vA := hapA.fresh (Fresh.nil HE) (Nat.le_refl _)
                    have oA : Own 1 HA vA c.key.length (bvs c.key) := by simpa using hapA.own
                    have ltE := bE.lt
                    have bE := bE.keep kA' (fun h => h)
                    refine zhrun ?_ ?_
                    refine x_buildSlice rfl rfl rfl rfl (by omega) (by simp [oneC, Value.oneCell']) rfl ⟨rfl, rfl⟩ ?_
                    intro HB hnB
                    refine ⟨okm_keep hnB.keep (fun _ _ h => h), ?_⟩
                    have kB : Keep Non H7 HB := hnB.old kA
                    have bB : Blk HB HA.size [kb b] := hnB.blk
                    have oA := oA.keep (S := Non) hnB.keep (fun _ h => h)
                    have bE := bE.keep (S := Non) hnB.keep (fun h => h)
                    refine zhrun ?_ ?_
                    refine x_append (by rfl) (by rfl) (by rfl) rfl rfl rfl oA (isSl_some (Nat.le_refl _) (by omega)) (m := 1) (cx := [kb b]) rfl (bB.cels 0 1 (by simp)) (by simp [oneC, Value.oneCell']) (by omega) rfl ⟨rfl, rfl⟩ ?_
                    intro vC HC hapC
                    refine ⟨okm_keep hapC.keep (fun z hz e => by have := fA (by have := e.2; omega); have := e.1; omega), ?_⟩
                    have kC : Keep Non H7 HC := hapC.old fA kB
                    have bsC : Bs HC vC (c.key ++ [b]) := (show Own 1 HC vC (c.key ++ [b]).length (bvs (c.key ++ [b])) by rw [bvs_append, List.length_append]; exact hapC.own).bs
                    have bE := bE.keep hapC.keep (fun e => by have := fA' (by have := e.2; omega); have := e.1; omega)
                    refine zhrun ?_ ?_
                    refine x_call rfl rfl rfl ⟨rfl, rfl⟩ (ih (i := r.next) (way := c.key ++ [b]) (by omega) (by omega) (CR.keepN hC7 kC) bsC (by have := kC.size; omega)) ?_
                    rintro _ HD ⟨hkD, vx, nx, dx, Px, rfl, hVx, hPxl, hxx⟩
                    refine ⟨okm_keep hkD (fun _ _ h => h), ?_⟩
                    have kD : Keep Non H7 HD := kC.non_trans hkD
                    have szD : H7.size ≤ HC.size := kC.size
                    have ltE2 := bE.lt
                    have bE := bE.keep hkD (fun h => h)
                    refine zhrun ?_ ?_
                    have sVx := hVx.ps.sl
                    refine x_stores rfl rfl rfl rfl (oc_cons (isSl_oneC sVx) (oc_cons rfl (oc_cons rfl (oc_cons rfl oc_nil)))) bE (by simp [zR]) ⟨rfl, rfl⟩ ?_
                    intro HS hBS hkS hsS
                    have aeq : ∀ z, z = H7.size → H7.size ≤ z := fun z e => by omega
                    refine ⟨okm_keep hkS (fun z hz e => by have := aeq z e; omega), ?_⟩
                    refine zhrun ?_ ?_
                    refine zrun ?_ ?_
                    exact nw_meet (H7.size, vx) (by repeat (first | exact True.intro | refine ⟨rfl, ?_⟩)) ⟨keep_at kD hkS geE, ⟨nx, dx, Px, hBS, (hVx.mono szD).keep hkS (fun hc e => by have := hVx.fresh hc; have e : sb vx = H7.size := e; omega) (fun z hz e => by have := aeq z e; omega), hPxl, hxx⟩, geE⟩
                  · refine x_buildSlice rfl rfl rfl rfl (by omega) (by simp [oneC, Value.oneCell']) rfl ⟨rfl, rfl⟩ ?_
                    intro HB hnB
                    refine ⟨okm_keep hnB.keep (fun _ _ h => h), ?_⟩
                    have kB : Keep Non H7 HB := hnB.old kE
                    have bB : Blk HB HE.size [kb b] := hnB.blk
                    have bE := bE.keep (S := Non) hnB.keep (fun h => h)
                    refine zhrun ?_ ?_
                    refine x_append (by rfl) (by rfl) (by rfl) rfl rfl rfl (Own.nil 1 HB) sK7 (by rw [bvs_length, Nat.mul_one]) (hK7.keepN kB).at_ (bvs_oneC _) (by omega) rfl ⟨rfl, rfl⟩ ?_
                    intro vA HA hapA
                    refine ⟨okm_keep (hapA.old (Fresh.nil HB) (Keep.refl _ _)) (fun _ _ h => h), ?_⟩
                    have kA : Keep Non H7 HA := hapA.old (Fresh.nil H7) kB
                    have kA' : Keep Non HB HA := hapA.old (Fresh.nil HB) (Keep.refl _ _)
                    have fA : 0 < sc vA → H7.size ≤ sb vA := hapA.fresh (Fresh.nil H7) kB.size
                    have fA' : 0 < sc vA → HB.size ≤ sb vA := hapA.fresh (Fresh.nil HB) (Nat.le_refl _)
                    have oA : Own 1 HA vA c.key.length (bvs c.key) := by simpa using hapA.own
                    have bB := bB.keep kA' (fun h => h)
                    have ltE := bE.lt
                    have bE := bE.keep kA' (fun h => h)
                    refine zhrun ?_ ?_
                    refine x_append (by rfl) (by rfl) (by rfl) rfl rfl rfl oA (isSl_some (Nat.le_refl _) (by omega)) (m := 1) (cx := [kb b]) rfl (bB.cels 0 1 (by simp)) (by simp [oneC, Value.oneCell']) (by omega) rfl ⟨rfl, rfl⟩ ?_
                    intro vC HC hapC
                    refine ⟨okm_keep hapC.keep (fun z hz e => by have := fA (by have := e.2; omega); have := e.1; omega), ?_⟩
                    have kC : Keep Non H7 HC := hapC.old fA kA
                    have bsC : Bs HC vC (c.key ++ [b]) := (show Own 1 HC vC (c.key ++ [b]).length (bvs (c.key ++ [b])) by rw [bvs_append, List.length_append]; exact hapC.own).bs
                    have bE := bE.keep hapC.keep (fun e => by have := fA' (by have := e.2; omega); have := e.1; omega)
                    refine zhrun ?_ ?_
                    refine x_call rfl rfl rfl ⟨rfl, rfl⟩ (ih (i := r.next) (way := c.key ++ [b]) (by omega) (by omega) (CR.keepN hC7 kC) bsC (by have := kC.size; omega)) ?_
                    rintro _ HD ⟨hkD, vx, nx, dx, Px, rfl, hVx, hPxl, hxx⟩
                    refine ⟨okm_keep hkD (fun _ _ h => h), ?_⟩
                    have kD : Keep Non H7 HD := kC.non_trans hkD
                    have szD : H7.size ≤ HC.size := kC.size
                    have ltE2 := bE.lt
                    have bE := bE.keep hkD (fun h => h)
                    refine zhrun ?_ ?_
                    have sVx := hVx.ps.sl
                    refine x_stores rfl rfl rfl rfl (oc_cons (isSl_oneC sVx) (oc_cons rfl (oc_cons rfl (oc_cons rfl oc_nil)))) bE (by simp [zR]) ⟨rfl, rfl⟩ ?_
                    intro HS hBS hkS hsS
                    have aeq : ∀ z, z = H7.size → H7.size ≤ z := fun z e => by omega
                    refine ⟨okm_keep hkS (fun z hz e => by have := aeq z e; omega), ?_⟩
                    refine zhrun ?_ ?_
                    refine zrun ?_ ?_
                    exact nw_meet (H7.size, vx) (by repeat (first | exact True.intro | refine ⟨rfl, ?_⟩)) ⟨keep_at kD hkS geE, ⟨nx, dx, Px, hBS, (hVx.mono szD).keep hkS (fun hc e => by have := hVx.fresh hc; have e : sb vx = H7.size := e; omega) (fun z hz e => by have := aeq z e; omega), hPxl, hxx⟩, geE⟩
              rintro ⟨ax, vx⟩ H8 ⟨hk78, ⟨nx, dx, Px, hB14, hVx, hPxl, hxx⟩, hax⟩
              rw [← hX'] at hkr hB14 hxx
              dsimp only at hB14 hVx hax ⊢
              have h0 : cel H8 ax 0 = some vx := by rw [hB14.cel]; rfl
              have h1 : cel H8 ax 1 = some (.int .i64 nx) := by rw [hB14.cel]; rfl
              have h2 : cel H8 ax 2 = some (.int .i64 dx) := by rw [hB14.cel]; rfl
              have h3 : cel H8 ax 3 = some (.bool X.isSome) := by rw [hB14.cel]; rfl
              have hk08 := hk07.non_trans hk78
              have hB68 := hB67.keep hk78 (fun h => h)
              have hB18 := hB17.keep hk78 (fun h => h)
              refine zrun ?_ ?_
              refine x_load rfl rfl (hpmt (h3)) rfl trivial ?_
              refine zrun ?_ ?_
              cases X with
              | none =>
                have hnone : none = res := hkr
                rw [← hnone] at hRc
                have hz : R = none := hRc
                refine zrun ?_ ?_
                refine x_build (cs := [.slice none 0 0, .int .i64 0, .int .i64 0, .bool false]) rfl rfl rfl ocp_nil rfl trivial ?_
                refine x_stores rfl rfl rfl rfl (by simp [oneC, Value.oneCell']) (hB68) (by simp [zR]) trivial ?_
                intro Hz hBz hkz hsz
                refine ⟨trivial, ?_⟩
                refine zrun ?_ ?_
                exact cw_retc rfl rfl rfl (hBz.cels 0 4 (by simp [putL, zR])) ⟨keep_at (hk08) hkz (Nat.le_refl _), .slice none 0 0, 0, 0, [], by rw [hz]; rfl, RdV.nil _ _ _, Nat.zero_le _, fun x hx => by rw [hz] at hx; cases hx⟩
              | some X =>
                obtain ⟨w1, w2, w3⟩ := hxx X rfl
                subst w1 w2 w3
                have hgx := rdR_good f hX'.symm
                have hV8 := hV7.keepN hk78
                have f0' := hk78.cel f0 (fun h => h)
                have f2' := hk78.cel f2 (fun h => h)
                have hfv := hV8.fresh
                have hltv : 0 < sc v → sb v < H7.size := fun hc => let ⟨_, o, _⟩ := hV7.row; o.lt hc
                have sV := hV8.ps.sl
                have sVx := hVx.ps.sl
                obtain ⟨q, ho, hq⟩ := id hV8.row
                obtain ⟨qx, hox, hqx⟩ := id hVx.row
                have hkr8 := Keep.refl (fun z => z = sb v ∧ 0 < sc v) H8
                have hv11 : ¬ (H3.size = sb v ∧ 0 < sc v) := fun e => by have := hfv e.2; omega
                have hv14 : ¬ (ax = sb v ∧ 0 < sc v) := fun e => by have := hltv e.2; omega
                have hmx : max (r.deep : Int) (X.deep : Int) = ((max r.deep X.deep : Nat) : Int) := by omega
                refine zrun ?_ ?_
                refine zrunc ?_ ?_
                refine cw_held (fun _ => Keep (fun z => z = sb v ∧ 0 < sc v) H8) ⟨[4, 13], [(1, 0), (3, 0), (6, 0), (8, 0), (10, 0)]⟩ (.op 0 (.op 1 (.op 2 (.op 3 (.op 5 (.op 6 (.op 7 (.op 8 (.op 9 (.op 10 (.op 11 (.op 4 (.op 12 (.op 13 (.nil))))))))))))))) panicOk_body mixed (by kernel_rfl) ?_
                refine zhrun ?_ ?_
                refine x_load rfl rfl (hpmk rfl (fun _ hk => hk.cel f0' hv11)) rfl (okq_load rfl rfl (by assumption)) ?_
                refine zhrun ?_ ?_
                refine x_load rfl rfl (hpmk rfl (fun _ hk => hk.cel h0 hv14)) rfl (okq_load rfl rfl (by assumption)) ?_
                refine zhrun ?_ ?_
                refine x_load rfl rfl (hpmk rfl (fun _ hk => hk.cel h1 hv14)) rfl (okq_load rfl rfl (by assumption)) ?_
                refine zhrun ?_ ?_
                refine x_load rfl rfl (hpmk rfl (fun _ hk => hk.cel f2' hv11)) rfl (okq_load rfl rfl (by assumption)) ?_
                refine zhrun ?_ ?_
                refine x_load rfl rfl (hpmk rfl (fun _ hk => hk.cel h2 hv14)) rfl (okq_load rfl rfl (by assumption)) ?_
                refine zhrun ?_ ?_
                refine x_max rfl rfl rfl rfl (okq_reg rfl rfl) ?_
                rw [hmx]
                refine x_append (by rfl) (by rfl) (by rfl) rfl rfl rfl ho sVx (by rw [pcs_length, hqx.len]) hox.cels (pcs_oneC hqx (fun v b h => isSl_oneC h.1.sl)) (by omega) rfl ⟨rfl, rfl⟩ ?_
                intro v9 H9 hap
                refine ⟨okm_keep hap.keep (fun z hz e => ⟨e.1, by have := e.2; omega⟩), ?_⟩
                have hs9 := hap.keep.size
                have hs8 := hk78.size
                have hk39 : Keep Non H3 H9 := (hk37.non_trans hk78).old hap.keep (fun z hz e => by have := hfv (by have := e.2; omega); have := e.1; omega)
                have hoff9 : ∀ z, z < B0 → ¬ (z = sb v ∧ r.P.length + X.P.length ≤ sc v ∧ 0 < X.P.length) := fun z hz e => by have := hfv (by have := e.2; omega); have := e.1; omega
                have hB19 := hB18.keep hap.keep (fun e => by have := hfv (by have := e.2; omega); have := e.1; omega)
                have hf9 := hap.fresh (H0 := H5) hfv (by omega)
                have hO9 : Own 2 H9 v9 (r.P ++ X.P).length (pcs (q ++ qx)) := by rw [List.length_append, pcs_append]; exact hap.own
                have hV9 : RdV B0 H5.size H9 v9 (r.P ++ X.P) := ⟨⟨q ++ qx, hO9, (hq.mono fun _ _ hb => hb.step hap.keep hoff9 (fun _ h => h)).append (hqx.mono fun _ _ hb => hb.step hap.keep hoff9 (fun _ h => h))⟩, hf9⟩
                refine zhrun ?_ ?_
                refine x_build (cs := [v9, .int .i64 X.next, .int .i64 (max r.deep X.deep : Nat), .bool true]) rfl rfl rfl (ocp_cons (isSl_oneC hO9.sl) (ocp_cons rfl (ocp_cons rfl (ocp_cons rfl ocp_nil)))) rfl (okq_reg rfl rfl) ?_
                refine x_stores rfl rfl rfl rfl (oc_cons (isSl_oneC hO9.sl) (oc_cons rfl (oc_cons rfl (oc_cons rfl oc_nil)))) hB19 (by simp) ⟨rfl, rfl⟩ ?_
                intro Ha hBa hka hsa
                refine ⟨okm_free (fun c => by cases c <;> kernel_rfl), ?_⟩
                refine zhrun ?_ ?_
                refine zrun ?_ ?_
                refine nw_round (k + 1, (b.toNat : Int), ⟨r.P ++ X.P, X.next, max r.deep X.deep⟩, v9) (by repeat (first | exact True.intro | refine ⟨rfl, ?_⟩)) ⟨by simp only; omega, ?_, hpart.step hgx rfl, keep_at hk39 hka (Nat.le_refl _), by omega, hBa, hV9.keep hka (fun hc e => by have := hf9 hc; have e : sb v9 = H3.size := e; omega) (fun z hz e => by have e : z = H3.size := e; omega)⟩ (by simp only; omega)
                simp only
                rw [show N - (k + 1) = m by omega]
                exact hkr
          · have hkN2 : k = N := by omega
            subst hkN2
            rw [Nat.sub_self] at hkr
            have hsome : some r = res := hkr
            rw [← hsome] at hRc
            have hRe : R = endT c r := hRc
            have sV := hV7.ps.sl
            refine zrun ?_ ?_
            refine x_load rfl rfl (hpmt (D7.d2)) rfl trivial ?_
            refine zrun ?_ ?_
            refine x_load rfl rfl (hpmt (f0)) rfl trivial ?_
            refine zrun ?_ ?_
            refine cw_cond rfl (fun hcnt => ?_) (fun hcnt => ?_) <;> (try simp at hcnt)
            · have hz : R = none := by rw [hRe]; exact if_neg hcnt
              refine zrun ?_ ?_
              refine x_build (cs := [.slice none 0 0, .int .i64 0, .int .i64 0, .bool false]) rfl rfl rfl ocp_nil rfl trivial ?_
              refine x_stores rfl rfl rfl rfl (by simp [oneC, Value.oneCell']) (hB67) (by simp [zR]) trivial ?_
              intro Hz hBz hkz hsz
              refine ⟨trivial, ?_⟩
              refine zrun ?_ ?_
              exact cw_retc rfl rfl rfl (hBz.cels 0 4 (by simp [putL, zR])) ⟨keep_at (hk07) hkz (Nat.le_refl _), .slice none 0 0, 0, 0, [], by rw [hz]; rfl, RdV.nil _ _ _, Nat.zero_le _, fun x hx => by rw [hz] at hx; cases hx⟩
            · have hz : R = some ⟨r.P, r.next, r.deep + 1⟩ := by rw [hRe]; exact if_pos hcnt
              refine zrun ?_ ?_
              refine x_load rfl rfl (hpmt (f2)) rfl trivial ?_
              refine zrun ?_ ?_
              refine x_store rfl rfl rfl rfl hB17 (by simp) trivial ?_
              intro H8 hB18 hk8 hs8
              refine ⟨trivial, ?_⟩
              have hk08 : Keep Non H H8 := keep_at hk07 hk8 (by omega)
              have hB68 := hB67.keep hk8 (fun e => by have e : H.size = H3.size := e; omega)
              have hV8 := hV7.keep hk8 (fun hc e => by have := hV7.fresh hc; have e : sb v = H3.size := e; omega) (fun z hz e => by have e : z = H3.size := e; omega)
              have hov := isSl_oneC sV
              refine zrun ?_ ?_
              refine x_loads (cs := [v, .int .i64 r.next, .int .i64 ((r.deep : Int) + 1), .bool true]) rfl rfl rfl (hpmt (hB18.cels 0 4 (by simp))) rfl trivial ?_
              refine x_stores rfl rfl rfl rfl (oc_cons hov (oc_cons rfl (oc_cons rfl (oc_cons rfl oc_nil)))) hB68 (by simp [zR]) trivial ?_
              intro H9 hB9 hk9 hs9
              refine ⟨trivial, ?_⟩
              refine zrun ?_ ?_
              refine cw_retc rfl rfl rfl (hB9.cels 0 4 (by simp [putL, zR])) ⟨keep_at hk08 hk9 (Nat.le_refl _), v, (r.next : Int), (r.deep : Int) + 1, r.P, by rw [hz]; rfl, ?_, by omega, fun x hx => ?_⟩
              · exact (hV8.mono (by omega)).keep hk9 (fun hc e => by have := hV8.fresh hc; have e : sb v = H.size := e; omega) (fun z hz e => by have e : z = H.size := e; omega)
              · rw [hz] at hx
                injection hx with hx
                subst hx
                exact ⟨rfl, rfl, rfl⟩
end Go.Proofs.YtkdmcbacofafpaaDoor.X
