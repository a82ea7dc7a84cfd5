/- Chapter 11: ShapeLeaves, walked. -/
import Derived.Test.YtkdmcbacofafpaaDoorK11d
namespace Go.Proofs.YtkdmcbacofafpaaDoor.X
open Go Go.Proofs
set_option linter.unusedVariables false
set_option linter.unusedSimpArgs false
set_option maxRecDepth 10000
set_option maxHeartbeats 4000000

theorem walk_ShapeLeaves {vk : Value} {k : Bytes} {v kind0 : Int} {H : Heap} (hK : Bs H vk k) (hL : Laid H) : Ret Tryd.prog 7 [vk, .int .u64 v, .int .i64 kind0] H (Yes H) := by
  have sK := hK.sl
  have cK := sK.cap
  refine ret_of Tryd.func7 rfl rfl rfl rfl ?_
  intro w0
  refine zrun ?_ ?_
  refine cw_cond rfl (fun h60 => ?_) (fun h60 => ?_) <;> (try simp at h60)
  · refine zrun ?_ ?_
    refine x_call rfl rfl rfl trivial (awake11 hL) ?_
    rintro _ H1 ⟨hk1, rfl⟩
    refine ⟨trivial, ?_⟩
    refine zrun ?_ ?_
    exact cw_ret1 rfl rfl ⟨rfl, hk1⟩
  · have hk60 : k.length ≤ 60 := by omega
    obtain ⟨b1, b2⟩ := low_bd kind0 (m := 11) (by omega)
    refine zrun ?_ ?_
    refine x_call rfl rfl rfl trivial (law_LowF kind0 11 (by omega) H) ?_
    rintro _ _ ⟨rfl, rfl⟩
    refine ⟨trivial, ?_⟩
    generalize low kind0 11 = q at b1 b2 ⊢
    refine zrun ?_ ?_
    have ekd : 1 + q = q + 1 := by omega
    obtain ⟨kind, hkind⟩ : ∃ kind, kind = 1 + q := ⟨_, rfl⟩
    rw [← hkind]
    have hk1 : 1 ≤ kind := by omega
    have hk11 : kind ≤ 11 := by omega
    clear hkind ekd b1 b2
    refine zrun ?_ ?_
    refine x_build (cs := encC (({ kind := kind, count := 1, val := v, key := k } : Cel), vk, .slice none 0 0)) rfl rfl rfl (ocp_cons rfl (ocp_cons (isSl_oneC sK) (ocp_cons rfl (ocp_cons rfl ocp_nil)))) rfl trivial ?_
    refine x_alloc rfl rfl trivial ?_
    intro H1 hn1
    refine ⟨trivial, ?_⟩
    have hs1 := hn1.size
    have hW : CelR (fun z => z < H.size) H (({ kind := kind, count := 1, val := v, key := k } : Cel), vk, .slice none 0 0) { kind := kind, count := 1, val := v, key := k } := ⟨rfl, ⟨hK, fun h => hK.lt h⟩, PsK.nil _ _, fun h => absurd rfl h⟩
    have hoy := CelR.oneC hW
    refine x_stores rfl rfl rfl rfl hoy hn1.blk (by simp [encC]) trivial ?_
    intro H2 hB2 hk2 hs2
    refine ⟨trivial, ?_⟩
    have hk02 : Keep Non H H2 := keep_at hn1.keep hk2 (Nat.le_refl _)
    have hB2 : Blk H2 H.size (encC (({ kind := kind, count := 1, val := v, key := k } : Cel), vk, .slice none 0 0)) := hB2
    refine zrun ?_ ?_
    refine cw_cut (fun _ : Unit => [(7, ptr H.size 0), (8, .int .i64 (lfT kind)), (6, .bool false)]) (fun _ H' => Keep Non H H' ∧ ∃ y, Blk H' H.size (encC y) ∧ CelR (fun z => z < H'.size) H' y (lfC kind k v)) ?_ ?_
    · have hW2 : CelR (fun z => z < H2.size) H2 (({ kind := kind, count := 1, val := v, key := k } : Cel), vk, .slice none 0 0) { kind := kind, count := 1, val := v, key := k } := hW.step hk02 (fun _ _ h => h) (fun z hz => by omega)
      refine cw_cond rfl (fun g1 => ?_) (fun g1 => ?_) <;> (try simp at g1)
      · subst g1
        refine zrun ?_ ?_
        exact nw_meet () (by repeat (first | exact True.intro | refine ⟨rfl, ?_⟩)) ⟨hk02, _, hB2, hW2⟩
      · refine zrun ?_ ?_
        refine cw_cond rfl (fun g3 => ?_) (fun g3 => ?_) <;> (try simp at g3)
        · subst g3
          refine zrun ?_ ?_
          refine x_store rfl rfl rfl rfl hB2 (by simp [encC]) trivial ?_
          intro H3 hB3 hk3 hs3
          refine ⟨trivial, ?_⟩
          refine zrun ?_ ?_
          exact nw_meet () (by repeat (first | exact True.intro | refine ⟨rfl, ?_⟩)) ⟨keep_at hk02 hk3 (Nat.le_refl _), (({ kind := 3, count := 1, val := v } : Cel), .slice none 0 0, .slice none 0 0), hB3, rfl, ⟨Bs.nil _, fun h => absurd rfl h⟩, PsK.nil _ _, fun h => absurd rfl h⟩
        · refine zrun ?_ ?_
          refine cw_cond rfl (fun g5 => ?_) (fun g5 => ?_) <;> (try simp at g5)
          · subst g5
            refine zrun ?_ ?_
            exact nw_meet () (by repeat (first | exact True.intro | refine ⟨rfl, ?_⟩)) ⟨hk02, _, hB2, hW2⟩
          · refine zrun ?_ ?_
            refine cw_cond rfl (fun g11 => ?_) (fun g11 => ?_) <;> (try simp at g11)
            · subst g11
              refine zrun ?_ ?_
              refine x_build (cs := [vk, .int .u64 v]) rfl rfl rfl (two_oneC (isSl_oneC sK)) rfl trivial ?_
              refine x_buildSliceS1 (by rfl) rfl rfl (by omega) (by rfl) rfl trivial ?_
              intro H3 hn3
              refine ⟨trivial, ?_⟩
              have hs3 := hn3.size
              have hk03 := hk02.non_trans hn3.keep
              refine zrun ?_ ?_
              refine x_build (cs := encC (({ kind := 11, kids := 1, count := 1, pairs := [(k, v)] } : Cel), .slice none 0 0, .slice (some ⟨H2.size, 0, none⟩) 1 1)) rfl rfl rfl (ocp_cons rfl (ocp_cons rfl (ocp_cons rfl (ocp_cons rfl ocp_nil)))) rfl trivial ?_
              refine x_stores rfl rfl rfl rfl (by simp [encC, oneC, Value.oneCell']) (hB2.keep hn3.keep (fun h => h)) (by simp [encC]) trivial ?_
              intro H4 hB4 hk4 hs4
              refine ⟨trivial, ?_⟩
              have hk04 := keep_at hk03 hk4 (Nat.le_refl _)
              refine zrun ?_ ?_
              refine nw_meet () (by repeat (first | exact True.intro | refine ⟨rfl, ?_⟩)) ⟨hk04, (({ kind := 11, kids := 1, count := 1, pairs := [(k, v)] } : Cel), .slice none 0 0, .slice (some ⟨H2.size, 0, none⟩) 1 1), hB4, rfl, ⟨Bs.nil _, fun h => absurd rfl h⟩, ⟨isSl_some (Nat.le_refl _) (by omega), [(vk, v)], Pk.one (p := (k, v)) ⟨hK.keepN hk04, fun hne => by have := hK.lt hne; omega⟩, ?_⟩, fun _ => by show H2.size < H4.size; omega⟩
              have := (hn3.blk.keep hk4 (fun (e : H2.size = H.size) => by omega)).cels 0 2 (by simp)
              exact this
            · have e1 : lfT kind = 0 := by unfold lfT; rw [if_neg g1, if_neg g3, if_neg g5, if_neg g11]
              have e2 : lfC kind k v = { kind := kind, count := 1, val := v, key := k } := by unfold lfC; rw [if_neg g3, if_neg g11]
              refine zrun ?_ ?_
              exact nw_meet () (by rw [e1]; exact (by repeat (first | exact True.intro | refine ⟨rfl, ?_⟩))) ⟨hk02, _, hB2, by rw [e2]; exact hW2⟩
    rintro _ H3 ⟨hk3, y, hB3, hy3⟩
    have hs3 := hk3.size
    refine zrun ?_ ?_
    refine cw_loop (fun t : Nat => [(7, ptr H.size 0), (8, .int .i64 (lfT kind)), (9, .int .i64 t), (6, .bool false)]) (fun t H' => Keep Non H3 H' ∧ 1 ≤ t ∧ t ≤ 5) (fun t => 5 - t) 1 (by repeat (first | exact True.intro | refine ⟨rfl, ?_⟩)) ⟨Keep.refl _ _, by omega, by omega⟩ ?_
    rintro t H4 ⟨hk4, ht1, ht5⟩
    have hk04 := hk3.non_trans hk4
    have hs4 := hk4.size
    have hL4 := hL.keepN hk04
    have hy4 : CelR (fun z => z < H3.size) H4 y (lfC kind k v) := hy3.step hk4 (fun _ _ h => h) (fun _ h => h)
    have hB4 := hB3.keep hk4 (fun h => h)
    have hsm := lf_small (kind := kind) (v := v) hk60
    have hnm := lf_num (k := k) (v := v) hk1 hk11
    refine zrun ?_ ?_
    refine cw_cond rfl (fun hle => ?_) (fun hle => ?_) <;> (try simp at hle)
    · have ht4 : t ≤ 4 := by omega
      obtain ⟨P, hP, e1⟩ := lf_one (kind := kind) (v := v) hk60 (t : Int) (by omega) (by omega)
      have e2 := lf_two (kind := kind) (v := v) hk60 (t : Int) (by omega) (by omega)
      refine zrun ?_ ?_
      refine cw_cut (fun _ : Unit => [(7, ptr H.size 0), (8, .int .i64 (lfT kind)), (9, .int .i64 t), (10, .int .i64 (if (t : Int) = lfT kind then 1 else 0)), (6, .bool false)]) (fun _ H' => H4 = H') ?_ ?_
      · refine cw_cond rfl (fun g => ?_) (fun g => ?_) <;> (try simp at g)
        · have g' : (t : Int) = lfT kind := by omega
          refine zrun ?_ ?_
          exact nw_meet () (by rw [if_pos g']; exact (by repeat (first | exact True.intro | refine ⟨rfl, ?_⟩))) rfl
        · have g' : ¬ (t : Int) = lfT kind := by omega
          refine zrun ?_ ?_
          exact nw_meet () (by rw [if_neg g']; exact (by repeat (first | exact True.intro | refine ⟨rfl, ?_⟩))) rfl
      rintro _ _ rfl
      have hkN := Keep.refl Non H4
      by_cases he : (t : Int) = lfT kind
      · rw [if_pos he] at e1 ⊢
        refine zrun ?_ ?_
        refine x_loads (cs := encC y) rfl rfl rfl (hpmt (hB4.cels 0 9 (by simp [encC]))) rfl trivial ?_
        refine zrun ?_ ?_
        refine x_buildSliceS1 (by rfl) rfl rfl (by omega) (by rfl) rfl trivial ?_
        intro H5 hn5
        refine ⟨trivial, ?_⟩
        have hs5 := hn5.size
        refine zrun ?_ ?_
        refine x_call rfl rfl rfl trivial (shpSound (tag := (t : Int)) (Sit.one hn5 hy4 (fun z hz => by omega) hsm hnm hL4)) ?_
        rintro _ H6 ⟨hk6, rfl⟩
        rw [e1]
        refine ⟨trivial, ?_⟩
        have hk46 := hn5.keep.non_trans hk6
        have hs46 := hk46.size
        refine zrun ?_ ?_
        refine x_false 53 rfl (by simp [he]) ?_
        refine zrun ?_ ?_
        refine x_loads (cs := encC y) rfl rfl rfl (hpmt ((hB4.keep hk46 (fun h => h)).cels 0 9 (by simp [encC]))) rfl trivial ?_
        refine zrun ?_ ?_
        refine x_buildSliceS1 (by rfl) rfl rfl (by omega) (by rfl) rfl trivial ?_
        intro H7 hn7
        refine ⟨trivial, ?_⟩
        refine zrun ?_ ?_
        refine x_call rfl rfl rfl trivial (shpDeep (tag := (t : Int)) (Sit.one hn7 (hy4.step (W' := fun z => z < H3.size) hk46 (fun _ _ h => h) (fun _ h => h)) (fun z hz => by omega) hsm hnm (hL4.keepN hk46))) ?_
        rintro _ H8 ⟨hk8, rfl⟩
        rw [e1]
        refine ⟨trivial, ?_⟩
        have hk48 := (hk46.non_trans hn7.keep).non_trans hk8
        have hs48 := hk48.size
        refine zrun ?_ ?_
        refine x_loads (cs := encC y) rfl rfl rfl (hpmt ((hB4.keep hk48 (fun h => h)).cels 0 9 (by simp [encC]))) rfl trivial ?_
        refine zrun ?_ ?_
        refine x_buildSliceS1 (by rfl) rfl rfl (by omega) (by rfl) rfl trivial ?_
        intro H9 hn9
        refine ⟨trivial, ?_⟩
        refine zrun ?_ ?_
        refine x_call rfl rfl rfl trivial (shpPairs (tag := (t : Int)) (Sit.one hn9 (hy4.step (W' := fun z => z < H3.size) hk48 (fun _ _ h => h) (fun _ h => h)) (fun z hz => by omega) hsm hnm (hL4.keepN hk48))) ?_
        rintro v10 H10 ⟨hk10, hV10⟩
        rw [e1] at hV10
        refine ⟨trivial, ?_⟩
        have sV : IsSl v10 1 := by
          have := hV10.ps.sl
          first | exact this | (rw [← hP]; exact this)
        have hk410 := (hk48.non_trans hn9.keep).non_trans hk10
        have hs410 := hk410.size
        refine zrun ?_ ?_
        refine x_loads (cs := encC y) rfl rfl rfl (hpmt ((hB4.keep hk410 (fun h => h)).cels 0 9 (by simp [encC]))) rfl trivial ?_
        refine zrun ?_ ?_
        refine x_loads (cs := encC y) rfl rfl rfl (hpmt ((hB4.keep hk410 (fun h => h)).cels 0 9 (by simp [encC]))) rfl trivial ?_
        refine zrun ?_ ?_
        refine x_buildSliceS2 (by rfl) rfl rfl (by omega) (by rfl) (by rfl) rfl trivial ?_
        intro H11 hn11
        refine ⟨trivial, ?_⟩
        have hy10 := hy4.step (W' := fun z => z < H3.size) hk410 (fun _ _ h => h) (fun _ h => h)
        refine zrun ?_ ?_
        refine x_call rfl rfl rfl trivial (shpSound (tag := (t : Int)) (Sit.pair hn11 hy10 hy10 (fun z hz => by omega) hsm hnm hsm hnm (hL4.keepN hk410))) ?_
        rintro _ H12 ⟨hk12, rfl⟩
        rw [e2]
        refine ⟨trivial, ?_⟩
        have hk412 := (hk410.non_trans hn11.keep).non_trans hk12
        refine zrun ?_ ?_
        exact nw_round (t + 1) (by repeat (first | exact True.intro | refine ⟨rfl, ?_⟩)) ⟨hk4.non_trans hk412, by omega, by omega⟩ (by omega)
      · rw [if_neg he] at e1 ⊢
        refine zrun ?_ ?_
        refine x_loads (cs := encC y) rfl rfl rfl (hpmt (hB4.cels 0 9 (by simp [encC]))) rfl trivial ?_
        refine zrun ?_ ?_
        refine x_buildSliceS1 (by rfl) rfl rfl (by omega) (by rfl) rfl trivial ?_
        intro H5 hn5
        refine ⟨trivial, ?_⟩
        have hs5 := hn5.size
        refine zrun ?_ ?_
        refine x_call rfl rfl rfl trivial (shpSound (tag := (t : Int)) (Sit.one hn5 hy4 (fun z hz => by omega) hsm hnm hL4)) ?_
        rintro _ H6 ⟨hk6, rfl⟩
        rw [e1]
        refine ⟨trivial, ?_⟩
        have hk46 := hn5.keep.non_trans hk6
        have hs46 := hk46.size
        refine zrun ?_ ?_
        refine x_false 53 rfl (by simp [he]) ?_
        refine zrun ?_ ?_
        refine x_loads (cs := encC y) rfl rfl rfl (hpmt ((hB4.keep hk46 (fun h => h)).cels 0 9 (by simp [encC]))) rfl trivial ?_
        refine zrun ?_ ?_
        refine x_buildSliceS1 (by rfl) rfl rfl (by omega) (by rfl) rfl trivial ?_
        intro H7 hn7
        refine ⟨trivial, ?_⟩
        refine zrun ?_ ?_
        refine x_call rfl rfl rfl trivial (shpDeep (tag := (t : Int)) (Sit.one hn7 (hy4.step (W' := fun z => z < H3.size) hk46 (fun _ _ h => h) (fun _ h => h)) (fun z hz => by omega) hsm hnm (hL4.keepN hk46))) ?_
        rintro _ H8 ⟨hk8, rfl⟩
        rw [e1]
        refine ⟨trivial, ?_⟩
        have hk48 := (hk46.non_trans hn7.keep).non_trans hk8
        have hs48 := hk48.size
        refine zrun ?_ ?_
        refine x_loads (cs := encC y) rfl rfl rfl (hpmt ((hB4.keep hk48 (fun h => h)).cels 0 9 (by simp [encC]))) rfl trivial ?_
        refine zrun ?_ ?_
        refine x_buildSliceS1 (by rfl) rfl rfl (by omega) (by rfl) rfl trivial ?_
        intro H9 hn9
        refine ⟨trivial, ?_⟩
        refine zrun ?_ ?_
        refine x_call rfl rfl rfl trivial (shpPairs (tag := (t : Int)) (Sit.one hn9 (hy4.step (W' := fun z => z < H3.size) hk48 (fun _ _ h => h) (fun _ h => h)) (fun z hz => by omega) hsm hnm (hL4.keepN hk48))) ?_
        rintro v10 H10 ⟨hk10, hV10⟩
        rw [e1] at hV10
        refine ⟨trivial, ?_⟩
        have sV : IsSl v10 0 := by
          have := hV10.ps.sl
          first | exact this | (rw [← hP]; exact this)
        have hk410 := (hk48.non_trans hn9.keep).non_trans hk10
        have hs410 := hk410.size
        refine zrun ?_ ?_
        refine x_loads (cs := encC y) rfl rfl rfl (hpmt ((hB4.keep hk410 (fun h => h)).cels 0 9 (by simp [encC]))) rfl trivial ?_
        refine zrun ?_ ?_
        refine x_loads (cs := encC y) rfl rfl rfl (hpmt ((hB4.keep hk410 (fun h => h)).cels 0 9 (by simp [encC]))) rfl trivial ?_
        refine zrun ?_ ?_
        refine x_buildSliceS2 (by rfl) rfl rfl (by omega) (by rfl) (by rfl) rfl trivial ?_
        intro H11 hn11
        refine ⟨trivial, ?_⟩
        have hy10 := hy4.step (W' := fun z => z < H3.size) hk410 (fun _ _ h => h) (fun _ h => h)
        refine zrun ?_ ?_
        refine x_call rfl rfl rfl trivial (shpSound (tag := (t : Int)) (Sit.pair hn11 hy10 hy10 (fun z hz => by omega) hsm hnm hsm hnm (hL4.keepN hk410))) ?_
        rintro _ H12 ⟨hk12, rfl⟩
        rw [e2]
        refine ⟨trivial, ?_⟩
        have hk412 := (hk410.non_trans hn11.keep).non_trans hk12
        refine zrun ?_ ?_
        exact nw_round (t + 1) (by repeat (first | exact True.intro | refine ⟨rfl, ?_⟩)) ⟨hk4.non_trans hk412, by omega, by omega⟩ (by omega)
    · refine zrun ?_ ?_
      refine x_call rfl rfl rfl trivial (awake11 hL4) ?_
      rintro _ H5 ⟨hk5, rfl⟩
      refine ⟨trivial, ?_⟩
      refine zrun ?_ ?_
      exact cw_ret1 rfl rfl ⟨rfl, hk04.non_trans hk5⟩
end Go.Proofs.YtkdmcbacofafpaaDoor.X
