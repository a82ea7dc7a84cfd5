/- Chapter 24, the document's Say. -/
import Derived.Test.YtbcflfkajkmkdaaDoorRr1
namespace Go.Proofs.YtbcflfkajkmkdaaDoor.X
open Go Go.Proofs Go.RowKit
set_option linter.unusedVariables false
set_option linter.unusedSimpArgs false
set_option maxRecDepth 10000
set_option maxHeartbeats 8000000

/-- the words ahead of the fields -/
def preN : List Bytes := [32 :: (nSlot ++ [61]), 32 :: (nA ++ [61]), 32 :: (nB ++ [61]), 32 :: (nCursor ++ [61]), 32 :: (nTag ++ [61]), 32 :: (nN ++ [61])]
def preB : List Bytes := [32 :: (nKey ++ [61]), 32 :: (nTo ++ [61]), 32 :: (nData ++ [61])]
theorem preN_at {o : Opn} {j : Nat} {x : Bytes × Int} (h : (numF o)[j]? = some x) : preN[j]? = some (32 :: (x.1 ++ [61])) := by
  match j, h with
  | 0, h => cases h; rfl
  | 1, h => cases h; rfl
  | 2, h => cases h; rfl
  | 3, h => cases h; rfl
  | 4, h => cases h; rfl
  | 5, h => cases h; rfl
  | n + 6, h => simp [numF] at h
theorem preB_at {o : Opn} {j : Nat} {x : Bytes × Bytes} (h : (bytF o)[j]? = some x) : preB[j]? = some (32 :: (x.1 ++ [61])) := by
  match j, h with
  | 0, h => cases h; rfl
  | 1, h => cases h; rfl
  | 2, h => cases h; rfl
  | n + 3, h => simp [bytF] at h
theorem byt_ok {o : Opn} (hs : OpSm o) {x : Bytes × Bytes} (h : x ∈ bytF o) : x.2.length ≤ 100000 ∧ x.1.length ≤ 6 := by
  have h7 := hs.key
  have h8 := hs.tol
  have h9 := hs.data
  simp only [bytF, List.mem_cons, List.not_mem_nil, or_false] at h
  rcases h with rfl | rfl | rfl
  · exact ⟨by dsimp only; omega, by dsimp only; decide⟩
  · exact ⟨by dsimp only; omega, by dsimp only; decide⟩
  · exact ⟨by dsimp only; omega, by dsimp only; decide⟩
theorem law_SayR {vk vt vd vp : Value} {o : Opn} {H : Heap} (hV : OpV H vk vt vd vp o) (ho : OpOk o) (hs : OpSm o) (hk64 : I64 o.kind) : Ret Tryd.prog 14 [.agg (opCells o vk vt vd vp).toArray] H (fun r H' => Keep Non H H' ∧ r = strV (sayO o)) := by
  have sk := hV.key.sl
  have st := hV.tov.sl
  have sd := hV.data.sl
  have sp := hV.pairs.sl
  have ok7 := isSl_oneC sk
  have ok8 := isSl_oneC st
  have ok9 := isSl_oneC sd
  obtain ⟨hk0, hk1⟩ := hk64
  refine ret_of Tryd.func14 rfl rfl rfl rfl ?_
  intro w0
  refine zrun ?_ ?_
  refine x_box (cs := opCells o vk vt vd vp) rfl rfl rfl trivial ?_
  intro H1 hn1
  refine ⟨trivial, ?_⟩
  have c0 : cel H1 H.size 0 = some (.int .i64 o.kind) := by rw [hn1.blk.cel]; rfl
  refine zrun ?_ ?_
  refine x_load rfl rfl (hpmt (c0)) rfl trivial ?_
  refine zrun ?_ ?_
  by_cases hkk : o.kind < 1 ∨ 23 ≤ o.kind
  · have e : sayO o = [] := by unfold sayO; rw [if_pos hkk]
    by_cases hk2 : o.kind < 1
    · rw [decide_eq_true hk2]
      refine zrun ?_ ?_
      exact cw_ret1 rfl rfl ⟨hn1.keep, by rw [e]; rfl⟩
    · rw [decide_eq_false hk2]
      refine zrun ?_ ?_
      refine x_load rfl rfl (hpmt (c0)) rfl trivial ?_
      refine zrun ?_ ?_
      rw [decide_eq_true (show o.kind ≥ 23 by omega)]
      refine zrun ?_ ?_
      exact cw_ret1 rfl rfl ⟨hn1.keep, by rw [e]; rfl⟩
  have hk3 : 1 ≤ o.kind ∧ o.kind < 23 := by omega
  have e : sayO o = sayB o := by unfold sayO; rw [if_neg hkk]
  rw [e, decide_eq_false (show ¬ o.kind < 1 by omega)]
  refine zrun ?_ ?_
  refine x_load rfl rfl (hpmt (c0)) rfl trivial ?_
  refine zrun ?_ ?_
  rw [decide_eq_false (show ¬ o.kind ≥ 23 by omega)]
  have hs1 := hn1.size
  have hkr := Keep.refl Non H1
  have snm : ∀ h : Nat, IsSl (.slice (some ⟨h, 0, none⟩) 23 23) 23 := fun h => isSl_some (by omega) (by omega)
  refine zrun ?_ ?_
  refine cw_held (fun _ => Keep Non H1) ⟨[0, 4], [(2, 0)]⟩ (.op 1 (.op 2 (.op 0 (.op 3 (.op 4 (.op 5 (.nil))))))) panicOk_body mixed (by kernel_rfl) ?_
  refine zhrun ?_ ?_
  refine x_load rfl rfl (hpmk rfl (fun _ hk => hk.cel c0 (fun h => h))) rfl (okq_load rfl rfl (by assumption)) ?_
  refine zhrun ?_ ?_
  refine x_call rfl rfl rfl ⟨rfl, rfl⟩ (law_wordsR H1) ?_
  rintro _ H2 ⟨hn2, rfl⟩
  refine ⟨okm_keep hn2.keep (fun _ _ h => h), ?_⟩
  have hs2 := hn2.size
  have cnm : cel H2 H1.size (0 + o.kind.toNat) = some (strV (nameOf o.kind)) := by
    have hl : o.kind.toNat < names24.length := by simp [names24]; omega
    rw [Nat.zero_add, hn2.blk.cel, List.getElem?_map, List.getElem?_eq_getElem hl]
    unfold nameOf
    rw [List.getD, List.getElem?_eq_getElem hl]
    rfl
  have snm1 := snm H1.size
  refine zhrun ?_ ?_
  refine x_load_e rfl rfl cnm rfl ⟨rfl, rfl⟩ ?_
  refine zhrun ?_ ?_
  clear snm snm1 cnm c0
  have hk02 := hn1.keep.non_trans hn2.keep
  have hbx := hn1.blk.keep hn2.keep (fun h => h)
  have q1 : cel H2 H.size 1 = some (.int .i64 o.slot) := by rw [hbx.cel]; rfl
  have q2 : cel H2 H.size 2 = some (.int .i64 o.a) := by rw [hbx.cel]; rfl
  have q3 : cel H2 H.size 3 = some (.int .i64 o.b) := by rw [hbx.cel]; rfl
  have q4 : cel H2 H.size 4 = some (.int .i64 o.cursor) := by rw [hbx.cel]; rfl
  have q5 : cel H2 H.size 5 = some (.int .i64 o.tag) := by rw [hbx.cel]; rfl
  have q6 : cel H2 H.size 6 = some (.int .i64 o.n) := by rw [hbx.cel]; rfl
  refine zrun ?_ ?_
  refine x_load rfl rfl (hpmt (q1)) rfl trivial ?_
  refine zrun ?_ ?_
  refine x_load rfl rfl (hpmt (q2)) rfl trivial ?_
  refine zrun ?_ ?_
  refine x_load rfl rfl (hpmt (q3)) rfl trivial ?_
  refine zrun ?_ ?_
  refine x_load rfl rfl (hpmt (q4)) rfl trivial ?_
  refine zrun ?_ ?_
  refine x_load rfl rfl (hpmt (q5)) rfl trivial ?_
  refine zrun ?_ ?_
  refine x_load rfl rfl (hpmt (q6)) rfl trivial ?_
  refine zrun ?_ ?_
  refine x_buildSlice (vs := (numF o).map fun x => .int .i64 x.2) rfl rfl rfl rfl (by omega) (by simp [numF, oneC, Value.oneCell']) rfl trivial ?_
  intro H4 hn4
  refine ⟨trivial, ?_⟩
  have hk04 := hk02.non_trans hn4.keep
  have hbx4 := hbx.keep hn4.keep (fun h => h)
  have sC : IsSl (.slice (some ⟨H2.size, 0, none⟩) 6 6) 6 := isSl_some (by omega) (by omega)
  have hwc : ∀ j x, (numF o)[j]? = some x → cel H4 H2.size (0 + j) = some (.int .i64 x.2) := fun j x hx => by rw [Nat.zero_add, hn4.blk.cel, List.getElem?_map, hx]; rfl
  have h6 : (6 : Nat) ≤ 9223372036854775807 := by omega
  have h3' : (3 : Nat) ≤ 9223372036854775807 := by omega
  refine zrun ?_ ?_
  refine cw_loop (fun t : Nat × Bytes => [(1, ptr H.size 0), (3, strV t.2), (4, .slice (some ⟨H2.size, 0, none⟩) 6 6), (5, .int .i64 (t.1 : Nat))]) (fun t H' => t.1 ≤ 6 ∧ Keep Non H4 H' ∧ t.2 = nameOf o.kind ++ joinS (fN o t.1)) (fun t => 6 - t.1) (0, nameOf o.kind) (by repeat (first | exact True.intro | refine ⟨rfl, ?_⟩)) ⟨by simp, Keep.refl _ _, by simp [fN, joinS]⟩ ?_
  rintro ⟨j, s⟩ H5 ⟨hj, hk5, hsE⟩
  simp only at hj hsE
  dsimp only
  refine zrun ?_ ?_
  refine cw_cond rfl (fun h1 => ?_) (fun h1 => ?_) <;> (try simp at h1)
  · obtain ⟨x, hx⟩ : ∃ x, (numF o)[j]? = some x := ⟨_, List.getElem?_eq_getElem (show j < (numF o).length by simp [numF]; omega)⟩
    have hx1 := num_ok ho (List.mem_of_getElem? hx)
    have hcj := hk5.cel (hwc j x hx) (fun h => h)
    have hsl := said_le hs ho (parts_fN o j)
    rw [← hsE] at hsl
    have hstep := fN_succ hx
    have hkr5 := Keep.refl Non H5
    refine zrun ?_ ?_
    refine x_load rfl rfl (hpmt (hcj)) rfl trivial ?_
    refine zrun ?_ ?_
    by_cases hx0 : x.2 = 0
    · rw [show (x.2 != 0) = false by simp [hx0]]
      refine zrun ?_ ?_
      exact nw_round (j + 1, s) (by repeat (first | exact True.intro | refine ⟨rfl, ?_⟩)) ⟨by show j + 1 ≤ 6; omega, hk5, by show s = _ ++ joinS (fN o (j + 1)); rw [hstep, hsE]; unfold pI; rw [if_pos hx0, List.append_nil]⟩ (by show 6 - (j + 1) < 6 - j; omega)
    · rw [show (x.2 != 0) = true by simp [hx0]]
      have hil := Lib.itoa_length_le _ hx1.1.1 hx1.1.2
      have hpl : (32 :: (x.1 ++ [61])).length ≤ 8 := by simp; omega
      have hfin : s ++ (32 :: (x.1 ++ [61])) ++ Lib.itoa x.2 = nameOf o.kind ++ joinS (fN o (j + 1)) := by
        rw [hstep, hsE]
        unfold pI
        rw [if_neg hx0, joinS_append]
        simp [joinS]
      refine zrun ?_ ?_
      refine cw_held (fun _ => Keep Non H5) ⟨[1, 4, 10], [(9, 0)]⟩ (.op 0 (.op 2 (.op 6 (.op 7 (.op 8 (.op 9 (.alt (.op 1 (.op 3 (.alt (.op 4 (.op 5 (.op 10 (.op 11 (.op 12 (.nil)))))) (.op 10 (.op 4 (.op 5 (.op 11 (.op 12 (.nil))))))))) (.op 10 (.op 1 (.op 3 (.op 4 (.op 5 (.op 11 (.op 12 (.nil))))))))))))))) panicOk_body mixed (by kernel_rfl) ?_
      refine zhrun ?_ ?_
      refine x_load rfl rfl (hpmk rfl (fun _ hk => hk.cel hcj (fun h => h))) rfl (okq_load rfl rfl (by assumption)) ?_
      refine zhrun ?_ ?_
      refine x_alt ?_ ?_
      · refine x_buildSlice (vs := svs preN) rfl rfl rfl rfl (by omega) (svs_oneC _) rfl ⟨rfl, rfl⟩ ?_
        intro H8 hn8
        refine ⟨okm_keep hn8.keep (fun _ _ h => h.elim), ?_⟩
        have hrow : cel H8 H5.size (0 + j) = some (strV (32 :: (x.1 ++ [61]))) := by rw [Nat.zero_add, hn8.blk.cel]; unfold svs; rw [List.getElem?_map, preN_at hx]; rfl
        have sM : IsSl (.slice (some ⟨H5.size, 0, none⟩) 6 6) 6 := isSl_some (by omega) (by omega)
        refine zhrun ?_ ?_
        refine x_alt ?_ ?_
        · refine x_load_e rfl rfl hrow rfl ⟨rfl, rfl⟩ ?_
          refine zhrun ?_ ?_
          refine x_cat (by simp; omega) rfl rfl rfl rfl (okq_reg rfl rfl) ?_
          refine zhrun ?_ ?_
          refine x_call rfl rfl rfl ⟨rfl, rfl⟩ (law_numberR hx1.1) ?_
          rintro _ H9 ⟨hc9, rfl⟩
          refine ⟨okm_keep hc9 (fun _ _ h => h), ?_⟩
          refine zhrun ?_ ?_
          refine x_cat (by rw [List.length_append]; omega) rfl rfl rfl rfl (okq_reg rfl rfl) ?_
          refine zhrun ?_ ?_
          refine zrun ?_ ?_
          exact nw_round (j + 1, s ++ (32 :: (x.1 ++ [61])) ++ Lib.itoa x.2) (by repeat (first | exact True.intro | refine ⟨rfl, ?_⟩)) ⟨by show j + 1 ≤ 6; omega, (hk5.non_trans hn8.keep).non_trans hc9, hfin⟩ (by show 6 - (j + 1) < 6 - j; omega)
        · refine x_call rfl rfl rfl ⟨rfl, rfl⟩ (law_numberR hx1.1) ?_
          rintro _ H9 ⟨hc9, rfl⟩
          refine ⟨okm_keep hc9 (fun _ _ h => h), ?_⟩
          refine zhrun ?_ ?_
          refine x_load_e rfl rfl (hc9.cel hrow (fun h => h)) rfl ⟨rfl, rfl⟩ ?_
          refine zhrun ?_ ?_
          refine x_cat (by simp; omega) rfl rfl rfl rfl (okq_reg rfl rfl) ?_
          refine zhrun ?_ ?_
          refine x_cat (by rw [List.length_append]; omega) rfl rfl rfl rfl (okq_reg rfl rfl) ?_
          refine zhrun ?_ ?_
          refine zrun ?_ ?_
          exact nw_round (j + 1, s ++ (32 :: (x.1 ++ [61])) ++ Lib.itoa x.2) (by repeat (first | exact True.intro | refine ⟨rfl, ?_⟩)) ⟨by show j + 1 ≤ 6; omega, (hk5.non_trans hn8.keep).non_trans hc9, hfin⟩ (by show 6 - (j + 1) < 6 - j; omega)
      · refine x_call rfl rfl rfl ⟨rfl, rfl⟩ (law_numberR hx1.1) ?_
        rintro _ H8 ⟨hc8, rfl⟩
        refine ⟨okm_keep hc8 (fun _ _ h => h), ?_⟩
        refine zhrun ?_ ?_
        refine x_buildSlice (vs := svs preN) rfl rfl rfl rfl (by omega) (svs_oneC _) rfl ⟨rfl, rfl⟩ ?_
        intro H9 hn9
        refine ⟨okm_keep hn9.keep (fun _ _ h => h.elim), ?_⟩
        have hrow : cel H9 H8.size (0 + j) = some (strV (32 :: (x.1 ++ [61]))) := by rw [Nat.zero_add, hn9.blk.cel]; unfold svs; rw [List.getElem?_map, preN_at hx]; rfl
        have sM : IsSl (.slice (some ⟨H8.size, 0, none⟩) 6 6) 6 := isSl_some (by omega) (by omega)
        refine zhrun ?_ ?_
        refine x_load_e rfl rfl hrow rfl ⟨rfl, rfl⟩ ?_
        refine zhrun ?_ ?_
        refine x_cat (by simp; omega) rfl rfl rfl rfl (okq_reg rfl rfl) ?_
        refine zhrun ?_ ?_
        refine x_cat (by rw [List.length_append]; omega) rfl rfl rfl rfl (okq_reg rfl rfl) ?_
        refine zhrun ?_ ?_
        refine zrun ?_ ?_
        exact nw_round (j + 1, s ++ (32 :: (x.1 ++ [61])) ++ Lib.itoa x.2) (by repeat (first | exact True.intro | refine ⟨rfl, ?_⟩)) ⟨by show j + 1 ≤ 6; omega, (hk5.non_trans hc8).non_trans hn9.keep, hfin⟩ (by show 6 - (j + 1) < 6 - j; omega)
  obtain rfl : j = 6 := by omega
  clear h1 hwc sC
  have hk05 := hk04.non_trans hk5
  have hbx5 := hbx4.keep hk5 (fun h => h)
  have q7 : cel H5 H.size 7 = some vk := by rw [hbx5.cel]; rfl
  have q8 : cel H5 H.size 8 = some vt := by rw [hbx5.cel]; rfl
  have q9 : cel H5 H.size 9 = some vd := by rw [hbx5.cel]; rfl
  refine zrun ?_ ?_
  refine x_load rfl rfl (hpmt (q7)) rfl trivial ?_
  refine zrun ?_ ?_
  refine x_load rfl rfl (hpmt (q8)) rfl trivial ?_
  refine zrun ?_ ?_
  refine x_load rfl rfl (hpmt (q9)) rfl trivial ?_
  refine zrun ?_ ?_
  refine x_buildSlice (vs := [vk, vt, vd]) rfl rfl rfl rfl (by omega) (oc_cons ok7 (oc_cons ok8 (oc_cons ok9 oc_nil))) rfl trivial ?_
  intro H6 hn6
  refine ⟨trivial, ?_⟩
  have hk06 := hk05.non_trans hn6.keep
  have hbx6 := hbx5.keep hn6.keep (fun h => h)
  have sD : IsSl (.slice (some ⟨H5.size, 0, none⟩) 3 3) 3 := isSl_some (by omega) (by omega)
  have hwb : ∀ (j : Nat) (x : Bytes × Bytes), (bytF o)[j]? = some x → ∃ vx, cel H6 H5.size (0 + j) = some vx ∧ Bs H vx x.2 := fun j x hx => by
    rw [Nat.zero_add, hn6.blk.cel]
    match j, hx with
    | 0, hx => cases hx; exact ⟨vk, rfl, hV.key⟩
    | 1, hx => cases hx; exact ⟨vt, rfl, hV.tov⟩
    | 2, hx => cases hx; exact ⟨vd, rfl, hV.data⟩
    | n + 3, hx => simp [bytF] at hx
  refine zrun ?_ ?_
  refine cw_loop (fun t : Nat × Bytes => [(1, ptr H.size 0), (3, strV t.2), (6, .slice (some ⟨H5.size, 0, none⟩) 3 3), (7, .int .i64 (t.1 : Nat))]) (fun t H' => t.1 ≤ 3 ∧ Keep Non H6 H' ∧ t.2 = nameOf o.kind ++ joinS (fN o 6 ++ fB o t.1)) (fun t => 3 - t.1) (0, s) (by repeat (first | exact True.intro | refine ⟨rfl, ?_⟩)) ⟨by simp, Keep.refl _ _, by simp [fB, hsE]⟩ ?_
  clear hsE hk5 q7 q8 q9
  rintro ⟨j, s⟩ H7 ⟨hj, hk7, hsE⟩
  simp only at hj hsE
  dsimp only
  refine zrun ?_ ?_
  refine cw_cond rfl (fun h1 => ?_) (fun h1 => ?_) <;> (try simp at h1)
  · obtain ⟨x, hx⟩ : ∃ x, (bytF o)[j]? = some x := ⟨_, List.getElem?_eq_getElem (show j < (bytF o).length by simp [bytF]; omega)⟩
    have hx1 := byt_ok hs (List.mem_of_getElem? hx)
    obtain ⟨vx, hwx, hXb⟩ := hwb j x hx
    have hcj := hk7.cel hwx (fun h => h)
    have hXb := hXb.keepN (hk06.non_trans hk7)
    have sX := hXb.sl
    have hsl := said_le hs ho (parts_fB o j)
    rw [← hsE] at hsl
    have hstep := fB_succ hx
    have hkr7 := Keep.refl Non H7
    refine zrun ?_ ?_
    refine x_load rfl rfl (hpmt (hcj)) rfl trivial ?_
    refine zrun ?_ ?_
    by_cases hx0 : x.2 = []
    · rw [show decide (((x.2.length : Nat) : Int) > 0) = false by simp [hx0]]
      refine zrun ?_ ?_
      exact nw_round (j + 1, s) (by repeat (first | exact True.intro | refine ⟨rfl, ?_⟩)) ⟨by show j + 1 ≤ 3; omega, hk7, by show s = _ ++ joinS (fN o 6 ++ fB o (j + 1)); rw [hstep, hsE]; unfold pB; rw [if_pos hx0, List.append_nil]⟩ (by show 3 - (j + 1) < 3 - j; omega)
    · have hpos : 0 < x.2.length := List.length_pos_iff.2 hx0
      rw [decide_eq_true (show ((x.2.length : Nat) : Int) > 0 by omega)]
      have hil := hexB_length x.2
      have hpl : (32 :: (x.1 ++ [61])).length ≤ 8 := by simp; omega
      have hfin : s ++ (32 :: (x.1 ++ [61])) ++ hexB x.2 = nameOf o.kind ++ joinS (fN o 6 ++ fB o (j + 1)) := by
        rw [hstep, hsE]
        unfold pB
        rw [if_neg hx0]
        simp [joinS]
      refine zrun ?_ ?_
      refine cw_held (fun _ => Keep Non H7) ⟨[1, 4, 10], [(9, 0)]⟩ (.op 0 (.op 2 (.op 6 (.op 7 (.op 8 (.op 9 (.alt (.op 1 (.op 3 (.alt (.op 4 (.op 5 (.op 10 (.op 11 (.op 12 (.nil)))))) (.op 10 (.op 4 (.op 5 (.op 11 (.op 12 (.nil))))))))) (.op 10 (.op 1 (.op 3 (.op 4 (.op 5 (.op 11 (.op 12 (.nil))))))))))))))) panicOk_body mixed (by kernel_rfl) ?_
      refine zhrun ?_ ?_
      refine x_load rfl rfl (hpmk rfl (fun _ hk => hk.cel hcj (fun h => h))) rfl (okq_load rfl rfl (by assumption)) ?_
      refine zhrun ?_ ?_
      refine x_alt ?_ ?_
      · refine x_buildSlice (vs := svs preB) rfl rfl rfl rfl (by omega) (svs_oneC _) rfl ⟨rfl, rfl⟩ ?_
        intro H8 hn8
        refine ⟨okm_keep hn8.keep (fun _ _ h => h.elim), ?_⟩
        have hrow : cel H8 H7.size (0 + j) = some (strV (32 :: (x.1 ++ [61]))) := by rw [Nat.zero_add, hn8.blk.cel]; unfold svs; rw [List.getElem?_map, preB_at hx]; rfl
        have sM : IsSl (.slice (some ⟨H7.size, 0, none⟩) 3 3) 3 := isSl_some (by omega) (by omega)
        refine zhrun ?_ ?_
        refine x_alt ?_ ?_
        · refine x_load_e rfl rfl hrow rfl ⟨rfl, rfl⟩ ?_
          refine zhrun ?_ ?_
          refine x_cat (by simp; omega) rfl rfl rfl rfl (okq_reg rfl rfl) ?_
          refine zhrun ?_ ?_
          refine x_call rfl rfl rfl ⟨rfl, rfl⟩ (law_hexR (hXb.keepN hn8.keep) (by omega)) ?_
          rintro _ H9 ⟨hc9, rfl⟩
          refine ⟨okm_keep hc9 (fun _ _ h => h), ?_⟩
          refine zhrun ?_ ?_
          refine x_cat (by rw [List.length_append, hexB_length]; omega) rfl rfl rfl rfl (okq_reg rfl rfl) ?_
          refine zhrun ?_ ?_
          refine zrun ?_ ?_
          exact nw_round (j + 1, s ++ (32 :: (x.1 ++ [61])) ++ hexB x.2) (by repeat (first | exact True.intro | refine ⟨rfl, ?_⟩)) ⟨by show j + 1 ≤ 3; omega, (hk7.non_trans hn8.keep).non_trans hc9, hfin⟩ (by show 3 - (j + 1) < 3 - j; omega)
        · refine x_call rfl rfl rfl ⟨rfl, rfl⟩ (law_hexR (hXb.keepN hn8.keep) (by omega)) ?_
          rintro _ H9 ⟨hc9, rfl⟩
          refine ⟨okm_keep hc9 (fun _ _ h => h), ?_⟩
          refine zhrun ?_ ?_
          refine x_load_e rfl rfl (hc9.cel hrow (fun h => h)) rfl ⟨rfl, rfl⟩ ?_
          refine zhrun ?_ ?_
          refine x_cat (by simp; omega) rfl rfl rfl rfl (okq_reg rfl rfl) ?_
          refine zhrun ?_ ?_
          refine x_cat (by rw [List.length_append, hexB_length]; omega) rfl rfl rfl rfl (okq_reg rfl rfl) ?_
          refine zhrun ?_ ?_
          refine zrun ?_ ?_
          exact nw_round (j + 1, s ++ (32 :: (x.1 ++ [61])) ++ hexB x.2) (by repeat (first | exact True.intro | refine ⟨rfl, ?_⟩)) ⟨by show j + 1 ≤ 3; omega, (hk7.non_trans hn8.keep).non_trans hc9, hfin⟩ (by show 3 - (j + 1) < 3 - j; omega)
      · refine x_call rfl rfl rfl ⟨rfl, rfl⟩ (law_hexR (hXb.keepN (Keep.refl _ _)) (by omega)) ?_
        rintro _ H8 ⟨hc8, rfl⟩
        refine ⟨okm_keep hc8 (fun _ _ h => h), ?_⟩
        refine zhrun ?_ ?_
        refine x_buildSlice (vs := svs preB) rfl rfl rfl rfl (by omega) (svs_oneC _) rfl ⟨rfl, rfl⟩ ?_
        intro H9 hn9
        refine ⟨okm_keep hn9.keep (fun _ _ h => h.elim), ?_⟩
        have hrow : cel H9 H8.size (0 + j) = some (strV (32 :: (x.1 ++ [61]))) := by rw [Nat.zero_add, hn9.blk.cel]; unfold svs; rw [List.getElem?_map, preB_at hx]; rfl
        have sM : IsSl (.slice (some ⟨H8.size, 0, none⟩) 3 3) 3 := isSl_some (by omega) (by omega)
        refine zhrun ?_ ?_
        refine x_load_e rfl rfl hrow rfl ⟨rfl, rfl⟩ ?_
        refine zhrun ?_ ?_
        refine x_cat (by simp; omega) rfl rfl rfl rfl (okq_reg rfl rfl) ?_
        refine zhrun ?_ ?_
        refine x_cat (by rw [List.length_append, hexB_length]; omega) rfl rfl rfl rfl (okq_reg rfl rfl) ?_
        refine zhrun ?_ ?_
        refine zrun ?_ ?_
        exact nw_round (j + 1, s ++ (32 :: (x.1 ++ [61])) ++ hexB x.2) (by repeat (first | exact True.intro | refine ⟨rfl, ?_⟩)) ⟨by show j + 1 ≤ 3; omega, (hk7.non_trans hc8).non_trans hn9.keep, hfin⟩ (by show 3 - (j + 1) < 3 - j; omega)
  obtain rfl : j = 3 := by omega
  clear h1 hwb sD
  have hk07 := hk06.non_trans hk7
  have hbx7 := hbx6.keep hk7 (fun h => h)
  have r10 : cel H7 H.size 10 = some (.int .u64 o.val) := by rw [hbx7.cel]; rfl
  have hsl := said_le hs ho (parts_fB o 3)
  rw [← hsE] at hsl
  have hdl := dec_le ho.val
  have hsv : ∀ s', s' = s ++ joinS (pU nVal o.val) → s' = nameOf o.kind ++ joinS (fN o 6 ++ (fB o 3 ++ pU nVal o.val)) := fun s' h => by
    rw [h, hsE, ← List.append_assoc, joinS_append (fN o 6 ++ fB o 3), List.append_assoc]
  refine zrun ?_ ?_
  refine x_load rfl rfl (hpmt (r10)) rfl trivial ?_
  refine zrunc ?_ ?_
  refine cw_cut (fun s' : Bytes => [(1, ptr H.size 0), (3, strV s')]) (fun s' H' => Keep Non H7 H' ∧ s' = nameOf o.kind ++ joinS (fN o 6 ++ (fB o 3 ++ pU nVal o.val))) ?_ ?_
  · by_cases hv0 : o.val = 0
    · rw [show (o.val != 0) = false by simp [hv0]]
      refine zrun ?_ ?_
      exact nw_meet s (by repeat (first | exact True.intro | refine ⟨rfl, ?_⟩)) ⟨Keep.refl _ _, hsv s (by unfold pU; rw [if_pos hv0]; simp [joinS])⟩
    · rw [show (o.val != 0) = true by simp [hv0]]
      refine zrun ?_ ?_
      refine x_cat (b := 32 :: (nVal ++ [61])) (by simp [nVal]; omega) rfl rfl rfl rfl trivial ?_
      refine zrun ?_ ?_
      refine x_load rfl rfl (hpmt (r10)) rfl trivial ?_
      refine zrun ?_ ?_
      refine x_call rfl rfl rfl trivial (law_digitsR ho.val) ?_
      rintro _ H8 ⟨hk8, rfl⟩
      refine ⟨trivial, ?_⟩
      refine zrun ?_ ?_
      refine x_cat (by simp [nVal]; omega) rfl rfl rfl rfl trivial ?_
      refine zrun ?_ ?_
      exact nw_meet (s ++ (32 :: (nVal ++ [61])) ++ dec o.val) (by repeat (first | exact True.intro | refine ⟨rfl, ?_⟩)) ⟨hk8, hsv _ (by unfold pU; rw [if_neg hv0]; simp [joinS])⟩
  clear hsv hsl hsE r10
  rintro s H8 ⟨hk8, hsE⟩
  have hk08 := hk07.non_trans hk8
  have hbx8 := hbx7.keep hk8 (fun h => h)
  have hpl := hs.pairs
  refine zrun ?_ ?_
  refine cw_loop (fun t : Nat × Bytes => [(1, ptr H.size 0), (3, strV t.2), (8, .int .i64 (t.1 : Nat))]) (fun t H' => t.1 ≤ o.pairs.length ∧ Keep Non H8 H' ∧ t.2 = nameOf o.kind ++ joinS (fN o 6 ++ (fB o 3 ++ (pU nVal o.val ++ fP o t.1)))) (fun t => o.pairs.length - t.1) (0, s) (by repeat (first | exact True.intro | refine ⟨rfl, ?_⟩)) ⟨by simp, Keep.refl _ _, by show s = _; rw [show pU nVal o.val ++ fP o 0 = pU nVal o.val by simp [fP]]; exact hsE⟩ ?_
  clear hsE
  rintro ⟨j, s⟩ H9 ⟨hj, hk9, hsE⟩
  simp only at hj hsE
  dsimp only
  have hk09 := hk08.non_trans hk9
  have hbx9 := hbx8.keep hk9 (fun h => h)
  have r11 : cel H9 H.size 11 = some vp := by rw [hbx9.cel]; rfl
  refine zrun ?_ ?_
  refine x_load rfl rfl (hpmt (r11)) rfl trivial ?_
  refine zrun ?_ ?_
  refine cw_cond rfl (fun h1 => ?_) (fun h1 => ?_) <;> (try simp at h1)
  · obtain ⟨x, hx⟩ := getp (l := o.pairs) (j := j) (by omega)
    have hx1 := hs.each x (List.mem_of_getElem? hx)
    have hx2 := ho.pairs x (List.mem_of_getElem? hx)
    obtain ⟨kv, b1, b2, b3⟩ := (hV.pairs.keepN hk09).at_ j x hx
    have hsl := said_le hs ho (parts_fP o j)
    rw [← hsE] at hsl
    have hdx := dec_le hx2
    have hhl := hexB_length x.1
    have hkr9 := Keep.refl Non H9
    refine zrun ?_ ?_
    refine cw_held (fun _ => Keep Non H9) ⟨[8, 17], [(3, 0), (7, 0), (12, 0), (16, 0)]⟩ (.op 0 (.op 1 (.op 2 (.op 3 (.op 4 (.op 5 (.op 6 (.op 7 (.op 11 (.op 12 (.op 13 (.op 14 (.op 15 (.op 16 (.op 8 (.op 9 (.op 10 (.op 17 (.op 18 (.op 19 (.nil))))))))))))))))))))) panicOk_body mixed (by kernel_rfl) ?_
    refine zhrun ?_ ?_
    refine x_cat (b := 32 :: (nPair ++ [61])) (by simp [nPair]; omega) rfl rfl rfl rfl (okq_reg rfl rfl) ?_
    refine zhrun ?_ ?_
    refine x_load rfl rfl (hpmk rfl (fun _ hk => hk.cel r11 (fun h => h))) rfl (okq_load rfl rfl (by assumption)) ?_
    refine zhrun ?_ ?_
    refine x_load rfl rfl (hpmk rfl (fun _ hk => hk.cel b1 (fun h => h))) rfl (okq_load rfl rfl (by assumption)) ?_
    refine zhrun ?_ ?_
    refine x_load rfl rfl (hpmk rfl (fun _ hk => hk.cel r11 (fun h => h))) rfl (okq_load rfl rfl (by assumption)) ?_
    refine zhrun ?_ ?_
    refine x_load rfl rfl (hpmk rfl (fun _ hk => hk.cel b2 (fun h => h))) rfl (okq_load rfl rfl (by assumption)) ?_
    refine zhrun ?_ ?_
    refine x_call rfl rfl rfl ⟨rfl, rfl⟩ (law_hexR b3 (by omega)) ?_
    rintro _ Ha ⟨hka, rfl⟩
    refine ⟨okm_keep hka (fun _ _ h => h), ?_⟩
    refine zhrun ?_ ?_
    refine x_cat (by simp [nPair]; omega) rfl rfl rfl rfl (okq_reg rfl rfl) ?_
    refine zhrun ?_ ?_
    refine x_cat (b := [58]) (by simp [nPair]; omega) rfl rfl rfl rfl (okq_reg rfl rfl) ?_
    refine zhrun ?_ ?_
    refine x_call rfl rfl rfl ⟨rfl, rfl⟩ (law_digitsR hx2) ?_
    rintro _ Hb ⟨hkb, rfl⟩
    refine ⟨okm_keep hkb (fun _ _ h => h), ?_⟩
    refine zhrun ?_ ?_
    refine x_cat (by simp [nPair]; omega) rfl rfl rfl rfl (okq_reg rfl rfl) ?_
    refine zhrun ?_ ?_
    refine zrun ?_ ?_
    refine nw_round (j + 1, s ++ (32 :: (nPair ++ [61])) ++ hexB x.1 ++ [58] ++ dec x.2) (by repeat (first | exact True.intro | refine ⟨rfl, ?_⟩)) ⟨by show j + 1 ≤ _; omega, (hk9.non_trans hka).non_trans hkb, ?_⟩ (by show o.pairs.length - (j + 1) < o.pairs.length - j; omega)
    show s ++ (32 :: (nPair ++ [61])) ++ hexB x.1 ++ [58] ++ dec x.2 = _
    rw [hsE, fP_succ hx]
    simp [joinS, pP]
  · obtain rfl : j = o.pairs.length := by omega
    have hfin : nameOf o.kind ++ joinS (fN o 6 ++ (fB o 3 ++ (pU nVal o.val ++ fP o o.pairs.length))) = sayB o := by
      unfold sayB
      rw [parts_fP o o.pairs.length, List.drop_length]
      simp
    refine zrun ?_ ?_
    exact cw_ret1 rfl rfl ⟨hk09, by rw [hsE, hfin]⟩
end Go.Proofs.YtbcflfkajkmkdaaDoor.X
