/- Chapter 11, the program: crit-bit trees. -/
import Derived.Test.YtkdmcbacofafpaaDoorP11d
namespace Go.Proofs.YtkdmcbacofafpaaDoor.X
open Go Go.Proofs
set_option linter.unusedVariables false
set_option linter.unusedSimpArgs false
set_option maxRecDepth 10000
set_option maxHeartbeats 4000000

theorem shp_crit {l : List Cel} {vc : Value} {B0 : Nat} (hok : CelsOk l) : ∀ (f : Nat) {i : Nat} {above : Int} {H : Heap}, 0 < f → l.length < i + f → CR B0 H vc l → B0 ≤ H.size → i ≤ l.length →
    Ret Tryd.prog 40 [.agg [vc].toArray, .int .i64 i, .int .i64 above] H (PrgO (rdC f l i above) H) := by
  intro f
  induction f with
  | zero =>
    intro i above H hf0
    omega
  | succ f ih =>
    intro i above H hf0 hf hC hB hil
    have sC := hC.sl
    have hll := hok.len
    obtain ⟨R, hR⟩ : ∃ R, R = rdC (f + 1) l i above := ⟨_, rfl⟩
    rw [← hR]
    refine ret_of Tryd.func40 rfl rfl rfl rfl ?_
    intro w0
    refine zrun ?_ ?_
    refine x_box (cs := [vc]) rfl rfl rfl trivial ?_
    intro H1 hn1
    refine ⟨trivial, ?_⟩
    refine x_alloc rfl rfl trivial ?_
    intro H2 hn2
    refine ⟨trivial, ?_⟩
    have hs1 := hn1.size
    have hs2 := hn2.size
    have hk2 := hn2.old hn1.keep
    have hC2 := CR.keepN hC hk2
    have hBr2 : Blk H2 H.size [vc] := (hn1.blk : Blk H1 H.size [vc]).keep hn2.keep (fun h => h)
    have hBo2 : Blk H2 H1.size zP := hn2.blk
    refine zrun ?_ ?_
    refine x_loads (cs := [vc]) rfl rfl rfl (hpmt (hBr2.cels 0 1 (by simp))) rfl trivial ?_
    refine zrun ?_ ?_
    refine x_call rfl rfl rfl trivial (shp_cell (i := i) hC2 (by omega)) ?_
    rintro _ H3 ⟨hk3, y, c, rfl, hy3, hcd⟩
    refine ⟨trivial, ?_⟩
    have hs3 := hk3.size
    refine zrun ?_ ?_
    refine x_alloc rfl rfl trivial ?_
    intro H4 hn4
    refine ⟨trivial, ?_⟩
    have hs4 := hn4.size
    refine x_stores rfl rfl rfl rfl (CelR.oneC hy3) hn4.blk (by simp [encC]) trivial ?_
    intro H5 hBc5 hk5 hs5
    refine ⟨trivial, ?_⟩
    have hk35 : Keep Non H3 H5 := keep_at hn4.keep hk5 (Nat.le_refl _)
    have hk25 := hk3.non_trans hk35
    have hk05 := hk2.non_trans hk25
    have hy5 := hy3.keepN hk35
    have hC5 := CR.keepN hC hk05
    have hBr5 := hBr2.keep hk25 (fun h => h)
    have hBo5 := hBo2.keep hk25 (fun h => h)
    have hBc5 : Blk H5 H3.size (encC y) := hBc5
    have D := celD_of hBc5 hy5.1
    have sK := hy5.2.1.1.sl
    have sP := hy5.2.2.1.sl
    have cK := sK.cap
    have cP := sP.cap
    have hs05 := hk05.size
    refine zrun ?_ ?_
    cases hc : l[i]? with
    | none =>
      have hz : none = R := by rw [hR, rdC_none hc]
      refine zrun ?_ ?_
      refine x_build (cs := zP) rfl rfl rfl ocp_nil rfl trivial ?_
      refine x_stores rfl rfl rfl rfl (by simp [zP, oneC, Value.oneCell']) (hBo5) (by simp [zP]) trivial ?_
      intro Hz hBz hkz hsz
      refine ⟨trivial, ?_⟩
      refine zrun ?_ ?_
      exact cw_retc2 rfl rfl rfl rfl (hBz.cels 0 3 (by simp [putL, zP])) ⟨(hk05).step hkz (fun z hz (e : z = _) => by omega), .slice none 0 0, 0, 0, [], by rw [← hz]; rfl, PoS.nil _ _, Nat.zero_le _, fun x hx => by rw [← hz] at hx; cases hx⟩
    | some d =>
      have hcd' := hcd d hc
      subst hcd'
      have hcm := List.mem_of_getElem? hc
      have hat := hok.at_ c hcm
      have hilt := (List.getElem?_eq_some_iff.1 hc).1
      rw [rdC_some hc] at hR
      refine zrun ?_ ?_
      refine x_loads (cs := encC y) rfl rfl rfl (hpmt (hBc5.cels 0 9 (by simp [encC]))) rfl trivial ?_
      refine zrun ?_ ?_
      refine x_call rfl rfl rfl trivial (shp_plain hy5) ?_
      rintro _ H6 ⟨hk6, e, rfl, he⟩
      refine ⟨trivial, ?_⟩
      have hs6 := hk6.size
      have hk06 := hk05.non_trans hk6
      have hy6 := hy5.keepN hk6
      have hBc6 := hBc5.keep hk6 (fun h => h)
      have hBo6 := hBo5.keep hk6 (fun h => h)
      have hBr6 := hBr5.keep hk6 (fun h => h)
      have D6 := D.keepN hk6
      refine zrun ?_ ?_
      cases e with
      | true =>
        have hLf := he.1 rfl
        rw [if_pos hLf] at hR
        refine zrun ?_ ?_
        refine x_loads (cs := encC y) rfl rfl rfl (hpmt (hBc6.cels 0 9 (by simp [encC]))) rfl trivial ?_
        refine zrun ?_ ?_
        refine x_load rfl rfl (hpmt (D6.d7)) rfl trivial ?_
        refine zrun ?_ ?_
        refine x_call rfl rfl rfl trivial (shp_own hy6 hy6.2.1.1 (by have := hLf.key; omega)) ?_
        rintro _ H7 ⟨hk7, kk, rfl, hO7, hf7⟩
        refine ⟨trivial, ?_⟩
        have hovk := isSl_oneC hO7.sl
        refine zrun ?_ ?_
        refine x_buildSliceS1 (by rfl) rfl rfl (by omega) (by rfl) rfl trivial ?_
        intro H8 hn8
        refine ⟨trivial, ?_⟩
        have hs7 := hk7.size
        have hs8 := hn8.size
        have hk08 := hn8.old (hk06.non_trans hk7)
        have hBo8 := (hBo6.keep hk7 (fun h => h)).keep hn8.keep (fun h => h)
        have hlt7 : 0 < sc kk → sb kk < H7.size := fun hc => hO7.lt hc
        have hV8 : PoS (fun z => H6.size ≤ z) H8 (.slice (some ⟨H7.size, 0, none⟩) 1 1) [(c.key, c.val)] := PoS.one (k := kk) (p := (c.key, c.val)) (Own.new (s := 2) (n := 1) hn8 rfl (by omega)) (fun _ => by show H6.size ≤ H7.size; omega) (hO7.keep hn8.keep (fun _ h => h)) (fun hc => ⟨hf7 hc, fun e => by have := hlt7 hc; have e : sb kk = H7.size := e; omega⟩)
        refine zrun ?_ ?_
        refine x_build (cs := [.slice (some ⟨H7.size, 0, none⟩) 1 1, .int .i64 (i + 1), .int .i64 1]) rfl rfl rfl (ocp_cons rfl (ocp_cons rfl (ocp_cons rfl ocp_nil))) rfl trivial ?_
        refine x_stores rfl rfl rfl rfl (oc_cons rfl (oc_cons rfl (oc_cons rfl oc_nil))) hBo8 (by simp [zP]) trivial ?_
        intro H9 hB9 hk9 hs9
        refine ⟨trivial, ?_⟩
        refine zrun ?_ ?_
        refine cw_retc2 rfl rfl rfl rfl (hB9.cels 0 3 (by simp [putL, zP])) ⟨hk08.step hk9 (fun z hz (e : z = _) => by omega), .slice (some ⟨H7.size, 0, none⟩) 1 1, (i : Int) + 1, 1, [(c.key, c.val)], by rw [hR]; rfl, (hV8.keep hk9 (fun z hz (e : z = _) => by omega)).mono (fun z hz _ => by omega), by simp, fun x hx => ?_⟩
        rw [hR] at hx
        injection hx with hx
        subst hx
        exact ⟨rfl, rfl, rfl⟩
      | false =>
        rw [if_neg (fun h => by cases he.2 h)] at hR
        refine zrunc ?_ ?_
        refine cw_cut (fun e : Bool => [(1, .int .i64 i), (2, .int .i64 above), (3, ptr H.size 0), (6, ptr H1.size 0), (7, .bool false), (8, ptr H3.size 0), (74, .bool e)]) (fun e H' => H6 = H' ∧ (e = true → ¬ InnerC c above) ∧ (e = false → InnerC c above)) ?_ ?_
        · refine zrun ?_ ?_
          refine x_load rfl rfl (hpmt (D6.d0)) rfl trivial ?_
          refine zrun ?_ ?_
          refine x_split 40 rfl (fun g0 => ?_) (fun g0 => ?_) <;> (try simp at g0)
          · refine zrun ?_ ?_
            exact nw_meet true (by repeat (first | exact True.intro | refine ⟨rfl, ?_⟩)) ⟨rfl, (fun _ h => g0 h.kind), (fun e => by cases e)⟩
          · refine zrun ?_ ?_
            refine x_load rfl rfl (hpmt (D6.d1)) rfl trivial ?_
            refine zrun ?_ ?_
            refine x_split 46 rfl (fun g1 => ?_) (fun g1 => ?_) <;> (try simp at g1)
            · refine zrun ?_ ?_
              exact nw_meet true (by repeat (first | exact True.intro | refine ⟨rfl, ?_⟩)) ⟨rfl, (fun _ h => by have := h.at_; omega), (fun e => by cases e)⟩
            · refine zrun ?_ ?_
              refine x_load rfl rfl (hpmt (D6.d3)) rfl trivial ?_
              refine zrun ?_ ?_
              refine x_split 51 rfl (fun g2 => ?_) (fun g2 => ?_) <;> (try simp at g2)
              · refine zrun ?_ ?_
                exact nw_meet true (by repeat (first | exact True.intro | refine ⟨rfl, ?_⟩)) ⟨rfl, (fun _ h => g2 h.kids), (fun e => by cases e)⟩
              · refine zrun ?_ ?_
                refine x_load rfl rfl (hpmt (D6.d4)) rfl trivial ?_
                refine zrun ?_ ?_
                refine x_split 56 rfl (fun g3 => ?_) (fun g3 => ?_) <;> (try simp at g3)
                · refine zrun ?_ ?_
                  exact nw_meet true (by repeat (first | exact True.intro | refine ⟨rfl, ?_⟩)) ⟨rfl, (fun _ h => by rw [h.byte] at g3; exact g3 rfl), (fun e => by cases e)⟩
                · refine zrun ?_ ?_
                  refine x_load rfl rfl (hpmt (D6.d5)) rfl trivial ?_
                  refine zrun ?_ ?_
                  refine x_split 60 rfl (fun g4 => ?_) (fun g4 => ?_) <;> (try simp at g4)
                  · refine zrun ?_ ?_
                    exact nw_meet true (by repeat (first | exact True.intro | refine ⟨rfl, ?_⟩)) ⟨rfl, (fun _ h => by rw [h.full] at g4; cases g4), (fun e => by cases e)⟩
                  · refine zrun ?_ ?_
                    refine x_load rfl rfl (hpmt (D6.d6)) rfl trivial ?_
                    refine zrun ?_ ?_
                    refine x_split 65 rfl (fun g5 => ?_) (fun g5 => ?_) <;> (try simp at g5)
                    · refine zrun ?_ ?_
                      exact nw_meet true (by repeat (first | exact True.intro | refine ⟨rfl, ?_⟩)) ⟨rfl, (fun _ h => g5 h.val), (fun e => by cases e)⟩
                    · have hkl := hok.key c hcm
                      have hml : c.pairs.length ≤ 1000000 := by
                        have h1 := manys_take hc
                        have h2 := manys_le l (i + 1)
                        have h3 : c.many = c.pairs.length + (if c.full then 1 else 0) := rfl
                        have h4 := hok.many
                        omega
                      refine zrun ?_ ?_
                      refine x_load rfl rfl (hpmt (D6.d7)) rfl trivial ?_
                      refine zrun ?_ ?_
                      refine x_load rfl rfl (hpmt (D6.d8)) rfl trivial ?_
                      refine zrun ?_ ?_
                      exact nw_meet _ (by repeat (first | exact True.intro | refine ⟨rfl, ?_⟩)) ⟨rfl, (fun e h => by have := of_decide_eq_true e; rw [h.key, h.pairs] at this; simp at this), (fun e => ⟨g0, by omega, g2, UInt8.toNat_inj.1 g3, g4, g5, List.length_eq_zero_iff.1 (by have := of_decide_eq_false e; omega), List.length_eq_zero_iff.1 (by have := of_decide_eq_false e; omega)⟩)⟩
        rintro e _ ⟨rfl, ht, hfl⟩
        cases e with
        | true =>
          rw [if_neg (ht rfl)] at hR
          have hz : none = R := hR.symm
          refine zrun ?_ ?_
          refine x_build (cs := zP) rfl rfl rfl ocp_nil rfl trivial ?_
          refine x_stores rfl rfl rfl rfl (by simp [zP, oneC, Value.oneCell']) (hBo6) (by simp [zP]) trivial ?_
          intro Hz hBz hkz hsz
          refine ⟨trivial, ?_⟩
          refine zrun ?_ ?_
          exact cw_retc2 rfl rfl rfl rfl (hBz.cels 0 3 (by simp [putL, zP])) ⟨(hk06).step hkz (fun z hz (e : z = _) => by omega), .slice none 0 0, 0, 0, [], by rw [← hz]; rfl, PoS.nil _ _, Nat.zero_le _, fun x hx => by rw [← hz] at hx; cases hx⟩
        | false =>
          have hI := hfl rfl
          rw [if_pos hI] at hR
          unfold nodeC at hR
          dsimp only at hR
          have hs06 := hk06.size
          refine zrun ?_ ?_
          refine x_loads (cs := [vc]) rfl rfl rfl (hpmt (hBr6.cels 0 1 (by simp))) rfl trivial ?_
          refine zrun ?_ ?_
          refine x_load rfl rfl (hpmt (D6.d1)) rfl trivial ?_
          refine zrun ?_ ?_
          refine x_call rfl rfl rfl trivial (ih (i := i + 1) (above := c.at_) (by omega) (by omega) (CR.keepN hC hk06) (by omega) (by omega)) ?_
          rintro _ H7 ⟨hk7, va, na, da, Pa, rfl, hVa, hPal, hAA⟩
          refine ⟨trivial, ?_⟩
          have hva := isSl_oneC hVa.ps.sl
          have hrag := @rdC_good f l (i + 1) c.at_
          generalize rdC f l (i + 1) c.at_ = ra at hR hAA hrag ⊢
          refine zrun ?_ ?_
          refine x_alloc rfl rfl trivial ?_
          intro H8 hn8
          refine ⟨trivial, ?_⟩
          refine x_stores rfl rfl rfl rfl (oc_cons hva (oc_cons rfl (oc_cons rfl oc_nil))) hn8.blk (by simp) trivial ?_
          intro H9 hB10 hk9 hs9
          refine ⟨trivial, ?_⟩
          have hs7 := hk7.size
          have hs8 := hn8.size
          have hk79 : Keep Non H7 H9 := keep_at hn8.keep hk9 (Nat.le_refl _)
          have hk69 := hk7.non_trans hk79
          have hk09 := hk06.non_trans hk69
          have hBo9 := hBo6.keep hk69 (fun h => h)
          have hBr9 := hBr6.keep hk69 (fun h => h)
          have D9 := D6.keepN hk69
          have a1 : cel H9 H7.size 1 = some (.int .i64 na) := by rw [hB10.cel]; rfl
          refine zrun ?_ ?_
          cases ra with
          | none =>
            have hz : none = R := hR.symm
            refine zrun ?_ ?_
            refine x_build (cs := zP) rfl rfl rfl ocp_nil rfl trivial ?_
            refine x_stores rfl rfl rfl rfl (by simp [zP, oneC, Value.oneCell']) (hBo9) (by simp [zP]) trivial ?_
            intro Hz hBz hkz hsz
            refine ⟨trivial, ?_⟩
            refine zrun ?_ ?_
            exact cw_retc2 rfl rfl rfl rfl (hBz.cels 0 3 (by simp [putL, zP])) ⟨(hk09).step hkz (fun z hz (e : z = _) => by omega), .slice none 0 0, 0, 0, [], by rw [← hz]; rfl, PoS.nil _ _, Nat.zero_le _, fun x hx => by rw [← hz] at hx; cases hx⟩
          | some a =>
            obtain ⟨e1, e2, e3⟩ := hAA a rfl
            obtain ⟨ga, gap, gan, gak⟩ := hrag rfl
            subst e1 e2 e3
            have hR : R = match rdC f l a.next c.at_ with
              | none => none
              | some b => (open Classical in if c.count = ((a.P.length + b.P.length : Nat) : Int) ∧ critOk c.at_ a.P b.P then some ⟨a.P ++ b.P, b.next, 1 + max a.deep b.deep⟩ else none) := hR
            have hg1 := ga.lt
            have hg2 := ga.le
            have hg3 := ga.deep
            have hs09 := hk09.size
            refine zrun ?_ ?_
            refine x_loads (cs := [vc]) rfl rfl rfl (hpmt (hBr9.cels 0 1 (by simp))) rfl trivial ?_
            refine zrun ?_ ?_
            refine x_load rfl rfl (hpmt (a1)) rfl trivial ?_
            refine zrun ?_ ?_
            refine x_load rfl rfl (hpmt (D9.d1)) rfl trivial ?_
            refine zrun ?_ ?_
            refine x_call rfl rfl rfl trivial (ih (i := a.next) (above := c.at_) (by omega) (by omega) (CR.keepN hC hk09) (by omega) (by omega)) ?_
            rintro _ H10 ⟨hk10, vb, nb, db, Pb, rfl, hVb, hPbl, hBB⟩
            refine ⟨trivial, ?_⟩
            have hvb := isSl_oneC hVb.ps.sl
            have hrbg := @rdC_good f l a.next c.at_
            generalize rdC f l a.next c.at_ = rb at hR hBB hrbg ⊢
            refine zrun ?_ ?_
            refine x_alloc rfl rfl trivial ?_
            intro H11 hn11
            refine ⟨trivial, ?_⟩
            refine x_stores rfl rfl rfl rfl (oc_cons hvb (oc_cons rfl (oc_cons rfl oc_nil))) hn11.blk (by simp) trivial ?_
            intro H12 hB11 hk12 hs12
            refine ⟨trivial, ?_⟩
            have hs10 := hk10.size
            have hs11 := hn11.size
            have hk1012 : Keep Non H10 H12 := keep_at hn11.keep hk12 (Nat.le_refl _)
            have hk912 := hk10.non_trans hk1012
            have hk012 := hk09.non_trans hk912
            have hBo12 := hBo9.keep hk912 (fun h => h)
            have D12 := D9.keepN hk912
            have hB10b : Blk H12 H7.size [va, .int .i64 a.next, .int .i64 a.deep] := (hB10 : Blk H9 H7.size [va, .int .i64 a.next, .int .i64 a.deep]).keep hk912 (fun h => h)
            have a0' : cel H12 H7.size 0 = some va := by rw [hB10b.cel]; rfl
            have a2' : cel H12 H7.size 2 = some (.int .i64 a.deep) := by rw [hB10b.cel]; rfl
            refine zrun ?_ ?_
            cases rb with
            | none =>
              have hz : none = R := hR.symm
              refine zrun ?_ ?_
              refine x_build (cs := zP) rfl rfl rfl ocp_nil rfl trivial ?_
              refine x_stores rfl rfl rfl rfl (by simp [zP, oneC, Value.oneCell']) (hBo12) (by simp [zP]) trivial ?_
              intro Hz hBz hkz hsz
              refine ⟨trivial, ?_⟩
              refine zrun ?_ ?_
              exact cw_retc2 rfl rfl rfl rfl (hBz.cels 0 3 (by simp [putL, zP])) ⟨(hk012).step hkz (fun z hz (e : z = _) => by omega), .slice none 0 0, 0, 0, [], by rw [← hz]; rfl, PoS.nil _ _, Nat.zero_le _, fun x hx => by rw [← hz] at hx; cases hx⟩
            | some b =>
              obtain ⟨e1, e2, e3⟩ := hBB b rfl
              obtain ⟨gb, gbp, gbn, gbk⟩ := hrbg rfl
              subst e1 e2 e3
              have hR : R = (open Classical in if c.count = ((a.P.length + b.P.length : Nat) : Int) ∧ critOk c.at_ a.P b.P then some ⟨a.P ++ b.P, b.next, 1 + max a.deep b.deep⟩ else none) := hR
              have hh1 := gb.lt
              have hh2 := gb.le
              have hh3 := gb.deep
              have b0 : cel H12 H10.size 0 = some vb := by rw [hB11.cel]; rfl
              have b1 : cel H12 H10.size 1 = some (.int .i64 b.next) := by rw [hB11.cel]; rfl
              have b2 : cel H12 H10.size 2 = some (.int .i64 b.deep) := by rw [hB11.cel]; rfl
              have hVa12 : PoS (fun z => H6.size ≤ z ∧ z < H7.size) H12 va a.P := (hVa.mono (fun z hz hl => ⟨hz, hl⟩)).keepN (hk79.non_trans hk912)
              have hVb12 : PoS (fun z => H9.size ≤ z ∧ z < H10.size) H12 vb b.P := (hVb.mono (fun z hz hl => ⟨hz, hl⟩)).keepN hk1012
              obtain ⟨qa, hqa, hoa, hda⟩ := id hVa12.row
              obtain ⟨qb, hqb, hob, hdb⟩ := id hVb12.row
              have hfa := hVa12.fresh
              have sVb := hob.sl
              have emax : max (a.deep : Int) (b.deep : Int) = ((max a.deep b.deep : Nat) : Int) := by omega
              have hkr := Keep.refl (fun z => z = sb va ∧ 0 < sc va) H12
              have hn10 : ¬ (H7.size = sb va ∧ 0 < sc va) := fun e => by have := (hfa e.2).2; omega
              have hn11' : ¬ (H10.size = sb va ∧ 0 < sc va) := fun e => by have := (hfa e.2).2; omega
              have hn8' : ¬ (H3.size = sb va ∧ 0 < sc va) := fun e => by have := (hfa e.2).1; omega
              have hn6' : ¬ (H1.size = sb va ∧ 0 < sc va) := fun e => by have := (hfa e.2).1; omega
              refine zrunc ?_ ?_
              refine cw_cut (fun s : Value × Nat => [(6, ptr H1.size 0), (7, .bool false), (8, ptr H3.size 0), (10, ptr H7.size 0), (12, ptr s.2 0)]) (fun s H' => Keep (fun z => z = sb va ∧ 0 < sc va) H12 H' ∧ Blk H' s.2 [s.1, .int .i64 b.next, .int .i64 (1 + ((max a.deep b.deep : Nat) : Int))] ∧ PoS (fun z => H6.size ≤ z) H' s.1 (a.P ++ b.P) ∧ H12.size ≤ s.2) ?_ ?_
              · refine cw_held (fun _ => Keep (fun z => z = sb va ∧ 0 < sc va) H12) ⟨[4, 14, 15], [(1, 0), (3, 0), (6, 0), (8, 0), (10, 0)]⟩ (.op 0 (.op 1 (.op 2 (.op 3 (.op 5 (.op 6 (.op 7 (.op 8 (.op 9 (.op 10 (.op 11 (.op 12 (.alt (.op 4 (.op 13 (.op 14 (.op 15 (.nil))))) (.op 14 (.op 4 (.op 13 (.op 15 (.nil)))))))))))))))))) panicOk_body mixed (by kernel_rfl) ?_
                refine zhrun ?_ ?_
                refine x_load rfl rfl (hpmk rfl (fun _ hk => hk.cel a0' hn10)) rfl (okq_load rfl rfl (by assumption)) ?_
                refine zhrun ?_ ?_
                refine x_load rfl rfl (hpmk rfl (fun _ hk => hk.cel b0 hn11')) rfl (okq_load rfl rfl (by assumption)) ?_
                refine zhrun ?_ ?_
                refine x_load rfl rfl (hpmk rfl (fun _ hk => hk.cel b1 hn11')) rfl (okq_load rfl rfl (by assumption)) ?_
                refine zhrun ?_ ?_
                refine x_load rfl rfl (hpmk rfl (fun _ hk => hk.cel a2' hn10)) rfl (okq_load rfl rfl (by assumption)) ?_
                refine zhrun ?_ ?_
                refine x_load rfl rfl (hpmk rfl (fun _ hk => hk.cel b2 hn11')) rfl (okq_load rfl rfl (by assumption)) ?_
                refine zhrun ?_ ?_
                refine x_max rfl rfl rfl rfl (okq_reg rfl rfl) ?_
                rw [emax]
                refine zhrun ?_ ?_
                refine x_alt ?_ ?_
                · refine x_append (by rfl) (by rfl) (by rfl) rfl rfl rfl hoa sVb (by rw [pcs_length, hqb.len]) hob.cels (pcs_oneC hqb (fun v b h => isSl_oneC h.1.sl)) (by omega) rfl ⟨rfl, rfl⟩ ?_
                  intro v12 H13 hap
                  refine ⟨okm_keep hap.keep (fun z hz e => ⟨e.1, by have := e.2; omega⟩), ?_⟩
                  have hs13 := hap.keep.size
                  have hV13 : PoS (fun z => H6.size ≤ z) H13 v12 (a.P ++ b.P) := PoS.app (S1 := fun z => H6.size ≤ z ∧ z < H7.size) (S2 := fun z => H9.size ≤ z ∧ z < H10.size) hqa hoa hda hfa (hqb.mono fun _ _ hb => ⟨hb.1, fun hc => (hb.2 hc).1⟩) hdb (fun z h1 h2 => by omega) (fun z h => h.1) (fun z h => by omega) (by show H6.size ≤ H12.size; omega) hap
                  have hov := isSl_oneC hV13.ps.sl
                  have hk1213 : Keep (fun z => z = sb va ∧ 0 < sc va) H12 H13 := hkr.step hap.keep (fun z hz e => ⟨e.1, by have := e.2; omega⟩)
                  refine zhrun ?_ ?_
                  refine x_build (cs := [v12, .int .i64 b.next, .int .i64 (1 + ((max a.deep b.deep : Nat) : Int))]) rfl rfl rfl (ocp_cons hov (ocp_cons rfl (ocp_cons rfl ocp_nil))) rfl (okq_reg rfl rfl) ?_
                  refine x_alloc rfl rfl ⟨rfl, rfl⟩ ?_
                  intro H14 hn14
                  refine ⟨okm_keep hn14.keep (fun _ _ h => h.elim), ?_⟩
                  refine zhrun ?_ ?_
                  refine x_stores rfl rfl rfl rfl (oc_cons hov (oc_cons rfl (oc_cons rfl oc_nil))) hn14.blk (by simp) ⟨rfl, rfl⟩ ?_
                  intro H15 hB12 hk15 hs15
                  refine ⟨okm_free (fun c => by cases c <;> kernel_rfl), ?_⟩
                  have hk1315 : Keep Non H13 H15 := keep_at hn14.keep hk15 (Nat.le_refl _)
                  refine zhrun ?_ ?_
                  refine zrun ?_ ?_
                  exact nw_meet (v12, H13.size) (by repeat (first | exact True.intro | refine ⟨rfl, ?_⟩)) ⟨hk1213.step hk1315 (fun _ _ h => h.elim), hB12, hV13.keepN hk1315, hs13⟩
                · refine x_alloc rfl rfl ⟨rfl, rfl⟩ ?_
                  intro H13 hn13
                  refine ⟨okm_keep hn13.keep (fun _ _ h => h.elim), ?_⟩
                  have hs13 := hn13.size
                  have hoa := hoa.keep (S := Non) hn13.keep (fun _ h => h)
                  have hob := hob.keep (S := Non) hn13.keep (fun _ h => h)
                  refine zhrun ?_ ?_
                  refine x_append (by rfl) (by rfl) (by rfl) rfl rfl rfl hoa sVb (by rw [pcs_length, hqb.len]) hob.cels (pcs_oneC hqb (fun v b h => isSl_oneC h.1.sl)) (by omega) rfl ⟨rfl, rfl⟩ ?_
                  intro v12 H14 hap
                  refine ⟨okm_keep hap.keep (fun z hz e => ⟨e.1, by have := e.2; omega⟩), ?_⟩
                  have hs14 := hap.keep.size
                  have hV14 : PoS (fun z => H6.size ≤ z ∧ z ≠ H12.size) H14 v12 (a.P ++ b.P) := PoS.app (S1 := fun z => H6.size ≤ z ∧ z < H7.size) (S2 := fun z => H9.size ≤ z ∧ z < H10.size) (hqa.mono fun _ _ hb => ⟨hb.1.keep (S := Non) hn13.keep (fun _ h => h), hb.2⟩) hoa hda hfa (hqb.mono fun _ _ hb => ⟨hb.1.keep (S := Non) hn13.keep (fun _ h => h), fun hc => (hb.2 hc).1⟩) hdb (fun z h1 h2 => by omega) (fun z h => ⟨h.1, by omega⟩) (fun z h => ⟨by omega, by omega⟩) ⟨by omega, by omega⟩ hap
                  have hov := isSl_oneC hV14.ps.sl
                  have hk1214 : Keep (fun z => z = sb va ∧ 0 < sc va) H12 H14 := (hkr.step hn13.keep (fun _ _ h => h.elim)).step hap.keep (fun z hz e => ⟨e.1, by have := e.2; omega⟩)
                  have hB12 := (hn13.blk).keep hap.keep (fun e => by have := (hfa (by have := e.2; omega)).2; have := e.1; omega)
                  refine zhrun ?_ ?_
                  refine x_build (cs := [v12, .int .i64 b.next, .int .i64 (1 + ((max a.deep b.deep : Nat) : Int))]) rfl rfl rfl (ocp_cons hov (ocp_cons rfl (ocp_cons rfl ocp_nil))) rfl (okq_reg rfl rfl) ?_
                  refine x_stores rfl rfl rfl rfl (oc_cons hov (oc_cons rfl (oc_cons rfl oc_nil))) hB12 (by simp) ⟨rfl, rfl⟩ ?_
                  intro H15 hB12' hk15 hs15
                  refine ⟨okm_free (fun c => by cases c <;> kernel_rfl), ?_⟩
                  refine zhrun ?_ ?_
                  refine zrun ?_ ?_
                  exact nw_meet (v12, H12.size) (by repeat (first | exact True.intro | refine ⟨rfl, ?_⟩)) ⟨hk1214.step hk15 (fun z hz (e : z = _) => by omega), hB12', (hV14.keep hk15 (fun z hz e => hz.2 e)).mono (fun z hz _ => hz.1), Nat.le_refl _⟩
              rintro ⟨v12, a12⟩ H13 ⟨hk1213, hB12, hV13, ha12⟩
              dsimp only at hB12 hV13 ha12 ⊢
              have hk013 : Keep Non H H13 := hk012.old hk1213 (fun z hz e => by have := (hfa e.2).1; have := e.1; omega)
              have d1 := hk1213.cel D12.d1 hn8'
              have d2 := hk1213.cel D12.d2 hn8'
              have a0 := hk1213.cel a0' hn10
              have hBo13 := hBo12.keep hk1213 hn6'
              have c0 : cel H13 a12 0 = some v12 := by rw [hB12.cel]; rfl
              have hPs := hV13.ps
              have sV := hPs.sl
              have sVa := hVa.ps.sl
              have hnl : (a.P ++ b.P).length = a.P.length + b.P.length := List.length_append
              have hn0 : 0 < a.P.length := List.length_pos_iff.2 gan
              have hkeys : ∀ p ∈ a.P ++ b.P, p.1.length ≤ 65535 := fun p hp => by
                rcases List.mem_append.1 hp with hp | hp
                · exact gak p hp
                · exact gbk p hp
              unfold critOk at hR
              generalize hall : a.P ++ b.P = all at *
              obtain ⟨q0, hq0⟩ := getp (l := all) (j := 0) (by omega)
              obtain ⟨k0, z1, z2, z3⟩ := hPs.at_ 0 q0 hq0
              have hq0l := hkeys q0 (List.mem_of_getElem? hq0)
              have hs13 := hk1213.size
              have hs013 := hk013.size
              have ha13 := hB12.lt
              refine zrun ?_ ?_
              refine x_load rfl rfl (hpmt (c0)) rfl trivial ?_
              refine zrun ?_ ?_
              refine x_load rfl rfl (hpmt (z1)) rfl trivial ?_
              refine zrun ?_ ?_
              refine x_load rfl rfl (hpmt (c0)) rfl trivial ?_
              refine zrun ?_ ?_
              refine cw_loop (fun j : Nat => [(6, ptr H1.size 0), (7, .bool false), (8, ptr H3.size 0), (10, ptr H7.size 0), (12, ptr a12 0), (13, k0), (120, v12), (121, .int .i64 all.length), (122, .int .i64 j)]) (fun j H' => Keep Non H13 H' ∧ j ≤ all.length ∧ ∀ k, k < j → critAt c.at_ a.P.length all k) (fun j => all.length - j) 0 (by repeat (first | exact True.intro | refine ⟨rfl, ?_⟩)) ⟨Keep.refl _ _, Nat.zero_le _, fun k hk => by omega⟩ ?_
              rintro j H14 ⟨hk14, hj, hcr⟩
              have d1' := hk14.cel d1 (fun h => h)
              have d2' := hk14.cel d2 (fun h => h)
              have a0'' := hk14.cel a0 (fun h => h)
              have hPs14 := hPs.keepN hk14
              have z3' := z3.keepN hk14
              have hBo14 := hBo13.keep hk14 (fun h => h)
              have hk014 := hk013.non_trans hk14
              have hs14 := hk14.size
              refine zrun ?_ ?_
              refine cw_cond rfl (fun hjl => ?_) (fun hjl => ?_) <;> (try simp at hjl)
              · obtain ⟨p, hp⟩ := getp (l := all) hjl
                obtain ⟨kk, w1, w2, w3⟩ := hPs14.at_ j p hp
                have skk := w3.sl
                refine zrun ?_ ?_
                refine x_loads (cs := [kk, .int .u64 p.2]) rfl rfl rfl (hpmt (cels_two w1 w2)) rfl trivial ?_
                refine x_alloc rfl rfl trivial ?_
                intro H15 hn15
                refine ⟨trivial, ?_⟩
                refine zrun ?_ ?_
                refine x_stores rfl rfl rfl rfl (two_oneC' (isSl_oneC skk)) hn15.blk (by simp) trivial ?_
                intro H16 hB16 hk16 hs16
                refine ⟨trivial, ?_⟩
                have hs15 := hn15.size
                have hk1416 : Keep Non H14 H16 := keep_at hn15.keep hk16 (Nat.le_refl _)
                have hB16 : Blk H16 H14.size [kk, .int .u64 p.2] := hB16
                have k16 : cel H16 H14.size 0 = some kk := by rw [hB16.cel]; rfl
                have a016 := hk1416.cel a0'' (fun h => h)
                have d116 := hk1416.cel d1' (fun h => h)
                have w316 := w3.keepN hk1416
                have z316 := z3'.keepN hk1416
                have hBo16 := hBo14.keep hk1416 (fun h => h)
                have hk016 := hk014.non_trans hk1416
                refine zrun ?_ ?_
                refine x_load rfl rfl (hpmt (a016)) rfl trivial ?_
                refine zrun ?_ ?_
                refine cw_cut (fun x : Int => [(6, ptr H1.size 0), (7, .bool false), (8, ptr H3.size 0), (10, ptr H7.size 0), (12, ptr a12 0), (13, k0), (15, ptr H14.size 0), (16, .int .i64 x), (120, v12), (121, .int .i64 all.length), (122, .int .i64 j)]) (fun x H' => H16 = H' ∧ x = if j < a.P.length then 0 else 1) ?_ ?_
                · refine cw_cond rfl (fun hkn => ?_) (fun hkn => ?_) <;> (try simp at hkn)
                  · refine zrun ?_ ?_
                    exact nw_meet 1 (by repeat (first | exact True.intro | refine ⟨rfl, ?_⟩)) ⟨rfl, by rw [if_neg (by omega)]⟩
                  · refine zrun ?_ ?_
                    exact nw_meet 0 (by repeat (first | exact True.intro | refine ⟨rfl, ?_⟩)) ⟨rfl, by rw [if_pos (by omega)]⟩
                rintro x _ ⟨rfl, hx⟩
                have hcrit : critAt c.at_ a.P.length all j ↔ ¬ (0 ≤ differ q0.1 p.1 ∧ differ q0.1 p.1 < c.at_) ∧ bitK p.1 c.at_ = x := by
                  rw [hx]
                  constructor
                  · intro h; exact h p q0 hq0 hp
                  · intro h p' q' hq' hp'
                    rw [hq0] at hq'; rw [hp] at hp'
                    cases hq'; cases hp'
                    exact h
                refine zrun ?_ ?_
                refine x_load rfl rfl (hpmt (k16)) rfl trivial ?_
                refine zrun ?_ ?_
                refine x_call rfl rfl rfl trivial (key_Differ z316 w316 (by omega)) ?_
                rintro _ _ ⟨rfl, rfl⟩
                refine ⟨trivial, ?_⟩
                refine zrunc ?_ ?_
                refine cw_cut (fun e : Bool => [(6, ptr H1.size 0), (7, .bool false), (8, ptr H3.size 0), (10, ptr H7.size 0), (12, ptr a12 0), (13, k0), (120, v12), (121, .int .i64 all.length), (122, .int .i64 j), (152, .bool e)]) (fun e H' => H16 = H' ∧ (e = true → ¬ critAt c.at_ a.P.length all j) ∧ (e = false → critAt c.at_ a.P.length all j)) ?_ ?_
                · refine zrun ?_ ?_
                  refine x_load rfl rfl (hpmt (k16)) rfl trivial ?_
                  refine zrun ?_ ?_
                  refine x_load rfl rfl (hpmt (d116)) rfl trivial ?_
                  refine zrun ?_ ?_
                  refine x_call rfl rfl rfl trivial (key_Bit c.at_ hat w316) ?_
                  rintro _ _ ⟨rfl, rfl⟩
                  refine ⟨trivial, ?_⟩
                  refine zrun ?_ ?_
                  refine x_split 143 rfl (fun h2 => ?_) (fun h2 => ?_) <;> (try simp at h2)
                  · refine zrun ?_ ?_
                    exact nw_meet true (by repeat (first | exact True.intro | refine ⟨rfl, ?_⟩)) ⟨rfl, (fun _ h => h2 (hcrit.1 h).2), (fun e => by cases e)⟩
                  · refine zrun ?_ ?_
                    refine x_split 146 rfl (fun h3 => ?_) (fun h3 => ?_) <;> (try simp at h3)
                    · refine zrun ?_ ?_
                      refine x_load rfl rfl (hpmt (d116)) rfl trivial ?_
                      refine zrun ?_ ?_
                      exact nw_meet _ (by repeat (first | exact True.intro | refine ⟨rfl, ?_⟩)) ⟨rfl, (fun e h => (hcrit.1 h).1 ⟨h3, of_decide_eq_true e⟩), (fun e => hcrit.2 ⟨fun h => absurd h.2 (of_decide_eq_false e), h2⟩)⟩
                    · refine zrun ?_ ?_
                      exact nw_meet false (by repeat (first | exact True.intro | refine ⟨rfl, ?_⟩)) ⟨rfl, (fun e => by cases e), (fun _ => hcrit.2 ⟨fun h => by omega, h2⟩)⟩
                rintro e _ ⟨rfl, ht, hfl⟩
                cases e with
                | true =>
                  have hz : none = R := by rw [hR, if_neg (fun h => ht rfl (h.2 j))]
                  refine zrun ?_ ?_
                  refine x_build (cs := zP) rfl rfl rfl ocp_nil rfl trivial ?_
                  refine x_stores rfl rfl rfl rfl (by simp [zP, oneC, Value.oneCell']) (hBo16) (by simp [zP]) trivial ?_
                  intro Hz hBz hkz hsz
                  refine ⟨trivial, ?_⟩
                  refine zrun ?_ ?_
                  exact cw_retc2 rfl rfl rfl rfl (hBz.cels 0 3 (by simp [putL, zP])) ⟨(hk016).step hkz (fun z hz (e : z = _) => by omega), .slice none 0 0, 0, 0, [], by rw [← hz]; rfl, PoS.nil _ _, Nat.zero_le _, fun x hx => by rw [← hz] at hx; cases hx⟩
                | false =>
                  refine zrun ?_ ?_
                  exact nw_round (j + 1) (by repeat (first | exact True.intro | refine ⟨rfl, ?_⟩)) ⟨hk14.non_trans hk1416, by omega, fun k hk => by
                    by_cases e : k = j
                    · rw [e]; exact hfl rfl
                    · exact hcr k (by omega)⟩ (by omega)
              · have hje : j = all.length := by omega
                subst hje
                have hcok : ∀ k, critAt c.at_ a.P.length all k := fun k => by
                  by_cases hk : k < all.length
                  · exact hcr k hk
                  · intro p' q' _ hp'
                    have := (List.getElem?_eq_some_iff.1 hp').1
                    omega
                have hov := isSl_oneC sV
                have hB14 := hB12.keep hk14 (fun h => h)
                have c0' : cel H14 a12 0 = some v12 := hk14.cel c0 (fun h => h)
                have hV14 := hV13.keepN hk14
                have hkr14 := Keep.refl (fun z => z = H1.size) H14
                refine zrunc ?_ ?_
                refine cw_held (fun _ => Keep (fun z => z = H1.size) H14) ⟨[7], [(0, 0), (2, 0), (4, 0)]⟩ (.op 0 (.op 1 (.op 2 (.op 3 (.op 4 (.op 5 (.op 6 (.op 7 (.op 8 (.nil)))))))))) panicOk_body mixed (by kernel_rfl) ?_
                refine zhrun ?_ ?_
                refine x_loads (cs := [v12, .int .i64 b.next, .int .i64 (1 + ((max a.deep b.deep : Nat) : Int))]) rfl rfl rfl (hpmk rfl (fun _ hk => (hB14.cels 0 3 (by simp)).keep hk (fun _ (e : _ = _) => by omega))) rfl (okq_load rfl rfl (by assumption)) ?_
                refine zhrun ?_ ?_
                refine x_load rfl rfl (hpmk rfl (fun _ hk => hk.cel d2' (fun (e : _ = _) => by omega))) rfl (okq_load rfl rfl (by assumption)) ?_
                refine zhrun ?_ ?_
                refine x_load rfl rfl (hpmk rfl (fun _ hk => hk.cel c0' (fun (e : _ = _) => by omega))) rfl (okq_load rfl rfl (by assumption)) ?_
                refine zhrun ?_ ?_
                refine x_stores rfl rfl rfl rfl (oc_cons hov (oc_cons rfl (oc_cons rfl oc_nil))) hBo14 (by simp [zP]) ⟨rfl, rfl⟩ ?_
                intro H15 hB15 hk15 hs15
                refine ⟨okm_keep hk15 (fun _ _ e => e), ?_⟩
                refine zhrun ?_ ?_
                refine zrun ?_ ?_
                refine cw_retc2 rfl rfl rfl rfl (hB15.cels 0 3 (by simp [putL, zP])) ⟨hk014.step hk15 (fun z hz (e : z = _) => by omega), v12, (b.next : Int), 1 + ((max a.deep b.deep : Nat) : Int), all, ?_, (hV14.keep hk15 (fun z hz (e : z = _) => by omega)).mono (fun z hz _ => by omega), by omega, fun x hx => ?_⟩
                · rw [hR]
                  by_cases hcn : c.count = ((a.P.length + b.P.length : Nat) : Int)
                  · rw [if_pos ⟨hcn, hcok⟩, show (c.count == (all.length : Int)) = true from by rw [hnl]; simpa using hcn]; rfl
                  · rw [if_neg (fun e => hcn e.1), show (c.count == (all.length : Int)) = false from by rw [hnl]; simpa using hcn]; rfl
                · rw [hR] at hx
                  split at hx
                  · injection hx with hx
                    subst hx
                    exact ⟨rfl, by show 1 + ((max a.deep b.deep : Nat) : Int) = ((1 + max a.deep b.deep : Nat) : Int); omega, rfl⟩
                  · cases hx
end Go.Proofs.YtkdmcbacofafpaaDoor.X
