/- Chapter 24, the document's field. -/
import Derived.Test.YtbcflfkajkmkdaaDoorRr2
namespace Go.Proofs.YtbcflfkajkmkdaaDoor.X
open Go Go.Proofs Go.RowKit
set_option linter.unusedVariables false
set_option linter.unusedSimpArgs false
set_option maxRecDepth 10000
set_option maxHeartbeats 8000000

section
variable {B0 b : Nat} {S : Nat → Prop} {H H' : Heap} {vk vt vd vp c : Value} {o o' : Opn} {l : Bytes}
theorem OpO.num (h : OpO B0 S H b vk vt vd vp o) (e1 : o'.key = o.key) (e2 : o'.to = o.to) (e3 : o'.data = o.data) (e4 : o'.pairs = o.pairs) : OpO B0 S H b vk vt vd vp o' := by
  obtain ⟨g1, g2, g3, g4, g5, g6, g7, g8, g9, g10, g11⟩ := h
  exact ⟨by rw [e1]; exact g1, g2, by rw [e2]; exact g3, g4, by rw [e3]; exact g5, g6, by rw [e4]; exact g7, g8, g9, g10, g11⟩
theorem OpO.setKey (h : OpO B0 S H b vk vt vd vp o) (k : Keep Non H H') (hB0 : B0 ≤ H.size) (hb : b < H.size) (hc : Own 1 H' c l.length (bvs l)) (hf : Fresh H c) : OpO B0 S H' b c vt vd vp { o with key := l } := by
  have p2 := h.pS
  obtain ⟨g1, g2, g3, g4, g5, g6, g7, g8, g9, g10, g11⟩ := h.keep k (fun _ _ _ _ h => h)
  exact ⟨hc, fun hp => by have := hf hp; omega, g3, g4, g5, g6, g7, g8, fun hp hS => by have := (p2 _ hS).2.1; have := hf hp; omega, g10, g11⟩
theorem OpO.setTo (h : OpO B0 S H b vk vt vd vp o) (k : Keep Non H H') (hB0 : B0 ≤ H.size) (hb : b < H.size) (hc : Own 1 H' c l.length (bvs l)) (hf : Fresh H c) : OpO B0 S H' b vk c vd vp { o with «to» := l } := by
  have p2 := h.pS
  obtain ⟨g1, g2, g3, g4, g5, g6, g7, g8, g9, g10, g11⟩ := h.keep k (fun _ _ _ _ h => h)
  exact ⟨g1, g2, hc, fun hp => by have := hf hp; omega, g5, g6, g7, g8, g9, fun hp hS => by have := (p2 _ hS).2.1; have := hf hp; omega, g11⟩
theorem OpO.setData (h : OpO B0 S H b vk vt vd vp o) (k : Keep Non H H') (hB0 : B0 ≤ H.size) (hb : b < H.size) (hc : Own 1 H' c l.length (bvs l)) (hf : Fresh H c) : OpO B0 S H' b vk vt c vp { o with data := l } := by
  have p2 := h.pS
  obtain ⟨g1, g2, g3, g4, g5, g6, g7, g8, g9, g10, g11⟩ := h.keep k (fun _ _ _ _ h => h)
  exact ⟨g1, g2, g3, g4, hc, fun hp => by have := hf hp; omega, g7, g8, g9, g10, fun hp hS => by have := (p2 _ hS).2.1; have := hf hp; omega⟩
end
/-- behind one field's being taken: the operation's cells, its rows, what was touched -/
def FieldR (B0 : Nat) (S : Nat → Prop) (H : Heap) (b : Nat) (o : Opn) (r : Value) (H' : Heap) : Prop := ∃ S' vk vt vd vp, r = .agg (opCells o vk vt vd vp).toArray ∧ OpO B0 S' H' b vk vt vd vp o ∧ (∀ z, S' z → S z ∨ H.size ≤ z) ∧ Keep S H H'
theorem toI_wrap {u : Int} (h : U64 u) : IntKind.i64.wrap u = toI u := by
  obtain ⟨h0, h1⟩ := h
  unfold toI
  simp [IntKind.wrap, IntKind.signed, IntKind.bits]
  split <;> split <;> omega
theorem headD_at {l : List Bytes} (h : l ≠ []) : l[0]? = some (l.headD []) := by
  cases l with
  | nil => exact absurd rfl h
  | cons x l => rfl
theorem lastD_at {l : List Bytes} (h : l ≠ []) : l[l.length - 1]? = some (l.getLastD []) := by
  cases l with
  | nil => exact absurd rfl h
  | cons x l =>
    rw [← List.getLast?_eq_getElem?, List.getLast?_eq_some_getLast h, List.getLastD_cons, List.getLast_eq_getLastD]
theorem svs_cel {H : Heap} {v : Value} {n : Nat} {l : List Bytes} (h : Own 1 H v n (svs l)) {j : Nat} {p : Bytes} (hp : l[j]? = some p) : cel H (sb v) (so v + j) = some (strV p) := by
  have hj := (List.getElem?_eq_some_iff.1 hp).1
  have hl : j < (svs l).length := by unfold svs; rw [List.length_map]; exact hj
  have hq : (svs l)[j]? = some (strV p) := by unfold svs; rw [List.getElem?_map, hp]; rfl
  rw [h.cels j hl, ← hq, List.getElem?_eq_getElem hl]
theorem law_fieldR {B0 b : Nat} {S : Nat → Prop} {o : Opn} {nm v : Bytes} {H : Heap} {vk vt vd vp : Value} (hbB : b < B0) (hB0 : B0 ≤ H.size) (hO : OpO B0 S H b vk vt vd vp o) (hv : v.length ≤ 100000) (hpl : o.pairs.length ≤ 100000) : Ret Tryd.prog 35 [.agg (opCells o vk vt vd vp).toArray, strV nm, strV v] H (FieldR B0 S H b (takeG rdrR o nm v)) := by
  have hr : rdrR.num v = toI (rdU v) := rfl
  have hru := rdU_bd v
  generalize hT : takeG rdrR o nm v = T
  unfold takeG at hT
  rw [hr] at hT
  have oco := hO.one
  refine ret_of Tryd.func35 rfl rfl rfl rfl ?_
  intro w0
  refine zrun ?_ ?_
  refine x_box (cs := opCells o vk vt vd vp) rfl rfl rfl trivial ?_
  intro H1 hn1
  refine ⟨trivial, ?_⟩
  refine zrun ?_ ?_
  refine x_alloc (zs := zeroOp) rfl rfl trivial ?_
  intro H2 hn2
  refine ⟨trivial, ?_⟩
  have hs1 := hn1.size
  have hs2 := hn2.size
  have hk02 := hn1.keep.non_trans hn2.keep
  have hB := hn1.blk.keep hn2.keep (fun h => h)
  have hZ := hn2.blk
  refine zrunc ?_ ?_
  refine cw_region ?_
  refine x_move rfl rfl rfl trivial ?_
  repeat (first | refine x_nil ?_ | refine nw_seq ?_ | refine cw_seq ?_)
  refine cw_cut (fun _ : Unit => [(3, ptr H.size 0), (6, ptr H1.size 0)]) (fun _ H' => ∃ S' vk' vt' vd' vp', Blk H' H.size (opCells T vk' vt' vd' vp') ∧ Blk H' H1.size zeroOp ∧ (∀ H4, Keep (fun z => z = H1.size) H' H4 → OpO B0 S' H4 b vk' vt' vd' vp' T) ∧ (∀ z, S' z → S z ∨ H.size ≤ z) ∧ Keep S H H') ?_ ?_
  rotate_left
  · rintro _ H3 ⟨S', xk, xt, xd, xp, hB3, hZ3, hO3, hS3, hk3⟩
    have hs3 := hk3.size
    have hlt := hZ3.lt
    refine zrun ?_ ?_
    refine x_loads (cs := opCells T xk xt xd xp) rfl rfl rfl (hpmt (hB3.cels 0 12 (by simp [opCells]))) rfl trivial ?_
    refine zrun ?_ ?_
    refine x_stores (cs := opCells T xk xt xd xp) rfl rfl rfl rfl (hO3 H3 (Keep.refl _ _)).one hZ3 (by simp [opCells]) trivial ?_
    intro H4 hB4 hk4 hs4
    refine ⟨trivial, ?_⟩
    have hB4 : Blk H4 H1.size (opCells T xk xt xd xp) := hB4
    refine zrun ?_ ?_
    refine cw_retc rfl rfl rfl (hB4.cels 0 12 (by simp [opCells])) ⟨S', xk, xt, xd, xp, rfl, hO3 H4 hk4, hS3, hk3.step hk4 (fun z hz e => by omega)⟩
  have pr2 : Keep Non H H2 := hk02
  refine zrun ?_ ?_
  refine x_seqL (b := nSlot) rfl rfl rfl rfl trivial ?_
  refine zrun ?_ ?_
  by_cases e : nm = nSlot
  · rw [decide_eq_true e]
    rw [if_pos e] at hT
    subst hT
    refine zrun ?_ ?_
    refine x_call rfl rfl rfl trivial (law_readR (by omega)) ?_
    rintro _ _ ⟨rfl, rfl⟩
    refine ⟨trivial, ?_⟩
    refine zrun ?_ ?_
    refine x_conv_int rfl rfl rfl trivial ?_
    rw [toI_wrap hru]
    refine zrun ?_ ?_
    refine x_store rfl rfl rfl rfl hB (by simp [opCells]) trivial ?_
    intro H3 hB3 hk3 hs3
    refine ⟨trivial, ?_⟩
    have hk03 : Keep Non H H3 := keep_at hk02 hk3 (Nat.le_refl _)
    refine zrun ?_ ?_
    exact nw_meet () (by repeat (first | exact True.intro | refine ⟨rfl, ?_⟩)) ⟨S, vk, vt, vd, vp, hB3, hZ.keep hk3 (by omega), fun H9 hk9 => (hO.keep (hk03.old hk9 (fun z hz e => by omega)) (fun _ _ _ _ h => h)).num rfl rfl rfl rfl, fun z hz => .inl hz, hk03.mono fun _ _ h => h.elim⟩
  rw [decide_eq_false e]
  rw [if_neg e] at hT
  clear e
  refine zrun ?_ ?_
  refine x_seqL (b := nA) rfl rfl rfl rfl trivial ?_
  refine zrun ?_ ?_
  by_cases e : nm = nA
  · rw [decide_eq_true e]
    rw [if_pos e] at hT
    subst hT
    refine zrun ?_ ?_
    refine x_call rfl rfl rfl trivial (law_readR (by omega)) ?_
    rintro _ _ ⟨rfl, rfl⟩
    refine ⟨trivial, ?_⟩
    refine zrun ?_ ?_
    refine x_conv_int rfl rfl rfl trivial ?_
    rw [toI_wrap hru]
    refine zrun ?_ ?_
    refine x_store rfl rfl rfl rfl hB (by simp [opCells]) trivial ?_
    intro H3 hB3 hk3 hs3
    refine ⟨trivial, ?_⟩
    have hk03 : Keep Non H H3 := keep_at hk02 hk3 (Nat.le_refl _)
    refine zrun ?_ ?_
    exact nw_meet () (by repeat (first | exact True.intro | refine ⟨rfl, ?_⟩)) ⟨S, vk, vt, vd, vp, hB3, hZ.keep hk3 (by omega), fun H9 hk9 => (hO.keep (hk03.old hk9 (fun z hz e => by omega)) (fun _ _ _ _ h => h)).num rfl rfl rfl rfl, fun z hz => .inl hz, hk03.mono fun _ _ h => h.elim⟩
  rw [decide_eq_false e]
  rw [if_neg e] at hT
  clear e
  refine zrun ?_ ?_
  refine x_seqL (b := nB) rfl rfl rfl rfl trivial ?_
  refine zrun ?_ ?_
  by_cases e : nm = nB
  · rw [decide_eq_true e]
    rw [if_pos e] at hT
    subst hT
    refine zrun ?_ ?_
    refine x_call rfl rfl rfl trivial (law_readR (by omega)) ?_
    rintro _ _ ⟨rfl, rfl⟩
    refine ⟨trivial, ?_⟩
    refine zrun ?_ ?_
    refine x_conv_int rfl rfl rfl trivial ?_
    rw [toI_wrap hru]
    refine zrun ?_ ?_
    refine x_store rfl rfl rfl rfl hB (by simp [opCells]) trivial ?_
    intro H3 hB3 hk3 hs3
    refine ⟨trivial, ?_⟩
    have hk03 : Keep Non H H3 := keep_at hk02 hk3 (Nat.le_refl _)
    refine zrun ?_ ?_
    exact nw_meet () (by repeat (first | exact True.intro | refine ⟨rfl, ?_⟩)) ⟨S, vk, vt, vd, vp, hB3, hZ.keep hk3 (by omega), fun H9 hk9 => (hO.keep (hk03.old hk9 (fun z hz e => by omega)) (fun _ _ _ _ h => h)).num rfl rfl rfl rfl, fun z hz => .inl hz, hk03.mono fun _ _ h => h.elim⟩
  rw [decide_eq_false e]
  rw [if_neg e] at hT
  clear e
  refine zrun ?_ ?_
  refine x_seqL (b := nCursor) rfl rfl rfl rfl trivial ?_
  refine zrun ?_ ?_
  by_cases e : nm = nCursor
  · rw [decide_eq_true e]
    rw [if_pos e] at hT
    subst hT
    refine zrun ?_ ?_
    refine x_call rfl rfl rfl trivial (law_readR (by omega)) ?_
    rintro _ _ ⟨rfl, rfl⟩
    refine ⟨trivial, ?_⟩
    refine zrun ?_ ?_
    refine x_conv_int rfl rfl rfl trivial ?_
    rw [toI_wrap hru]
    refine zrun ?_ ?_
    refine x_store rfl rfl rfl rfl hB (by simp [opCells]) trivial ?_
    intro H3 hB3 hk3 hs3
    refine ⟨trivial, ?_⟩
    have hk03 : Keep Non H H3 := keep_at hk02 hk3 (Nat.le_refl _)
    refine zrun ?_ ?_
    exact nw_meet () (by repeat (first | exact True.intro | refine ⟨rfl, ?_⟩)) ⟨S, vk, vt, vd, vp, hB3, hZ.keep hk3 (by omega), fun H9 hk9 => (hO.keep (hk03.old hk9 (fun z hz e => by omega)) (fun _ _ _ _ h => h)).num rfl rfl rfl rfl, fun z hz => .inl hz, hk03.mono fun _ _ h => h.elim⟩
  rw [decide_eq_false e]
  rw [if_neg e] at hT
  clear e
  refine zrun ?_ ?_
  refine x_seqL (b := nTag) rfl rfl rfl rfl trivial ?_
  refine zrun ?_ ?_
  by_cases e : nm = nTag
  · rw [decide_eq_true e]
    rw [if_pos e] at hT
    subst hT
    refine zrun ?_ ?_
    refine x_call rfl rfl rfl trivial (law_readR (by omega)) ?_
    rintro _ _ ⟨rfl, rfl⟩
    refine ⟨trivial, ?_⟩
    refine zrun ?_ ?_
    refine x_conv_int rfl rfl rfl trivial ?_
    rw [toI_wrap hru]
    refine zrun ?_ ?_
    refine x_store rfl rfl rfl rfl hB (by simp [opCells]) trivial ?_
    intro H3 hB3 hk3 hs3
    refine ⟨trivial, ?_⟩
    have hk03 : Keep Non H H3 := keep_at hk02 hk3 (Nat.le_refl _)
    refine zrun ?_ ?_
    exact nw_meet () (by repeat (first | exact True.intro | refine ⟨rfl, ?_⟩)) ⟨S, vk, vt, vd, vp, hB3, hZ.keep hk3 (by omega), fun H9 hk9 => (hO.keep (hk03.old hk9 (fun z hz e => by omega)) (fun _ _ _ _ h => h)).num rfl rfl rfl rfl, fun z hz => .inl hz, hk03.mono fun _ _ h => h.elim⟩
  rw [decide_eq_false e]
  rw [if_neg e] at hT
  clear e
  refine zrun ?_ ?_
  refine x_seqL (b := nN) rfl rfl rfl rfl trivial ?_
  refine zrun ?_ ?_
  by_cases e : nm = nN
  · rw [decide_eq_true e]
    rw [if_pos e] at hT
    subst hT
    refine zrun ?_ ?_
    refine x_call rfl rfl rfl trivial (law_readR (by omega)) ?_
    rintro _ _ ⟨rfl, rfl⟩
    refine ⟨trivial, ?_⟩
    refine zrun ?_ ?_
    refine x_conv_int rfl rfl rfl trivial ?_
    rw [toI_wrap hru]
    refine zrun ?_ ?_
    refine x_store rfl rfl rfl rfl hB (by simp [opCells]) trivial ?_
    intro H3 hB3 hk3 hs3
    refine ⟨trivial, ?_⟩
    have hk03 : Keep Non H H3 := keep_at hk02 hk3 (Nat.le_refl _)
    refine zrun ?_ ?_
    exact nw_meet () (by repeat (first | exact True.intro | refine ⟨rfl, ?_⟩)) ⟨S, vk, vt, vd, vp, hB3, hZ.keep hk3 (by omega), fun H9 hk9 => (hO.keep (hk03.old hk9 (fun z hz e => by omega)) (fun _ _ _ _ h => h)).num rfl rfl rfl rfl, fun z hz => .inl hz, hk03.mono fun _ _ h => h.elim⟩
  rw [decide_eq_false e]
  rw [if_neg e] at hT
  clear e
  refine zrun ?_ ?_
  refine x_seqL (b := nKey) rfl rfl rfl rfl trivial ?_
  refine zrun ?_ ?_
  by_cases e : nm = nKey
  · rw [decide_eq_true e]
    rw [if_pos e] at hT
    subst hT
    refine zrun ?_ ?_
    refine x_call rfl rfl rfl trivial (law_bytesR (by omega)) ?_
    rintro c H3 ⟨hk3, hc1, hc2⟩
    refine ⟨trivial, ?_⟩
    have occ := isSl_oneC hc1.sl
    refine zrun ?_ ?_
    refine x_store rfl rfl rfl occ (hB.keep hk3 (fun h => h)) (by simp [opCells]) trivial ?_
    intro H4 hB4 hk4 hs4
    refine ⟨trivial, ?_⟩
    have hk04 : Keep Non H H4 := keep_at (hk02.non_trans hk3) hk4 (Nat.le_refl _)
    have hc3 := hc1.keep hk4 (fun hp e => by have := hc2 hp; omega)
    have hc4 : Fresh H c := fun hp => by have := hc2 hp; omega
    refine zrun ?_ ?_
    exact nw_meet () (by repeat (first | exact True.intro | refine ⟨rfl, ?_⟩)) ⟨S, c, vt, vd, vp, hB4, (hZ.keep hk3 (fun h => h)).keep hk4 (by omega), fun H9 hk9 => hO.setKey (hk04.old hk9 (fun z hz e => by omega)) hB0 (by omega) (hc3.keep hk9 (fun hp e => by have := hc2 hp; omega)) hc4, fun z hz => .inl hz, hk04.mono fun _ _ h => h.elim⟩
  rw [decide_eq_false e]
  rw [if_neg e] at hT
  clear e
  refine zrun ?_ ?_
  refine x_seqL (b := nTo) rfl rfl rfl rfl trivial ?_
  refine zrun ?_ ?_
  by_cases e : nm = nTo
  · rw [decide_eq_true e]
    rw [if_pos e] at hT
    subst hT
    refine zrun ?_ ?_
    refine x_call rfl rfl rfl trivial (law_bytesR (by omega)) ?_
    rintro c H3 ⟨hk3, hc1, hc2⟩
    refine ⟨trivial, ?_⟩
    have occ := isSl_oneC hc1.sl
    refine zrun ?_ ?_
    refine x_store rfl rfl rfl occ (hB.keep hk3 (fun h => h)) (by simp [opCells]) trivial ?_
    intro H4 hB4 hk4 hs4
    refine ⟨trivial, ?_⟩
    have hk04 : Keep Non H H4 := keep_at (hk02.non_trans hk3) hk4 (Nat.le_refl _)
    have hc3 := hc1.keep hk4 (fun hp e => by have := hc2 hp; omega)
    have hc4 : Fresh H c := fun hp => by have := hc2 hp; omega
    refine zrun ?_ ?_
    exact nw_meet () (by repeat (first | exact True.intro | refine ⟨rfl, ?_⟩)) ⟨S, vk, c, vd, vp, hB4, (hZ.keep hk3 (fun h => h)).keep hk4 (by omega), fun H9 hk9 => hO.setTo (hk04.old hk9 (fun z hz e => by omega)) hB0 (by omega) (hc3.keep hk9 (fun hp e => by have := hc2 hp; omega)) hc4, fun z hz => .inl hz, hk04.mono fun _ _ h => h.elim⟩
  rw [decide_eq_false e]
  rw [if_neg e] at hT
  clear e
  refine zrun ?_ ?_
  refine x_seqL (b := nData) rfl rfl rfl rfl trivial ?_
  refine zrun ?_ ?_
  by_cases e : nm = nData
  · rw [decide_eq_true e]
    rw [if_pos e] at hT
    subst hT
    refine zrun ?_ ?_
    refine x_call rfl rfl rfl trivial (law_bytesR (by omega)) ?_
    rintro c H3 ⟨hk3, hc1, hc2⟩
    refine ⟨trivial, ?_⟩
    have occ := isSl_oneC hc1.sl
    refine zrun ?_ ?_
    refine x_store rfl rfl rfl occ (hB.keep hk3 (fun h => h)) (by simp [opCells]) trivial ?_
    intro H4 hB4 hk4 hs4
    refine ⟨trivial, ?_⟩
    have hk04 : Keep Non H H4 := keep_at (hk02.non_trans hk3) hk4 (Nat.le_refl _)
    have hc3 := hc1.keep hk4 (fun hp e => by have := hc2 hp; omega)
    have hc4 : Fresh H c := fun hp => by have := hc2 hp; omega
    refine zrun ?_ ?_
    exact nw_meet () (by repeat (first | exact True.intro | refine ⟨rfl, ?_⟩)) ⟨S, vk, vt, c, vp, hB4, (hZ.keep hk3 (fun h => h)).keep hk4 (by omega), fun H9 hk9 => hO.setData (hk04.old hk9 (fun z hz e => by omega)) hB0 (by omega) (hc3.keep hk9 (fun hp e => by have := hc2 hp; omega)) hc4, fun z hz => .inl hz, hk04.mono fun _ _ h => h.elim⟩
  rw [decide_eq_false e]
  rw [if_neg e] at hT
  clear e
  refine zrun ?_ ?_
  refine x_seqL (b := nVal) rfl rfl rfl rfl trivial ?_
  refine zrun ?_ ?_
  by_cases e : nm = nVal
  · rw [decide_eq_true e]
    rw [if_pos e] at hT
    subst hT
    refine zrun ?_ ?_
    refine x_call rfl rfl rfl trivial (law_readR (by omega)) ?_
    rintro _ _ ⟨rfl, rfl⟩
    refine ⟨trivial, ?_⟩
    refine zrun ?_ ?_
    refine x_store rfl rfl rfl rfl hB (by simp [opCells]) trivial ?_
    intro H3 hB3 hk3 hs3
    refine ⟨trivial, ?_⟩
    have hk03 : Keep Non H H3 := keep_at hk02 hk3 (Nat.le_refl _)
    refine zrun ?_ ?_
    exact nw_meet () (by repeat (first | exact True.intro | refine ⟨rfl, ?_⟩)) ⟨S, vk, vt, vd, vp, hB3, hZ.keep hk3 (by omega), fun H9 hk9 => (hO.keep (hk03.old hk9 (fun z hz e => by omega)) (fun _ _ _ _ h => h)).num rfl rfl rfl rfl, fun z hz => .inl hz, hk03.mono fun _ _ h => h.elim⟩
  rw [decide_eq_false e]
  rw [if_neg e] at hT
  clear e
  refine zrun ?_ ?_
  refine x_seqL (b := nPair) rfl rfl rfl rfl trivial ?_
  refine zrun ?_ ?_
  by_cases e : nm = nPair
  · rw [decide_eq_true e]
    rw [if_pos e] at hT
    subst hT
    refine zrun ?_ ?_
    refine x_call rfl rfl rfl trivial (law_partsR (s := v) (c := 58) (by omega)) ?_
    rintro r H3 ⟨hk3, hR, hRf⟩
    refine ⟨trivial, ?_⟩
    have hpm : ∀ p ∈ partsC 58 v, p.length ≤ v.length := fun p hp => partsC_mem hp
    have hne := partsC_ne 58 v
    have hlenp := partsC_length 58 v
    have hpr : rdrR.pair v = (bytR ((partsC 58 v).headD []), rdU ((partsC 58 v).getLastD [])) := rfl
    rw [hpr]
    generalize partsC 58 v = ps at hR hpm hne hlenp ⊢
    have g0 := headD_at hne
    have gl := lastD_at hne
    have m0 := hpm _ (List.mem_of_getElem? g0)
    have ml := hpm _ (List.mem_of_getElem? gl)
    generalize ps.headD [] = p0 at g0 m0 ⊢
    generalize ps.getLastD [] = pl at gl ml ⊢
    have hps : 0 < ps.length := List.length_pos_iff.2 hne
    have c0 := svs_cel hR g0
    have cl := svs_cel hR gl
    rw [show ps.length - 1 = ((ps.length : Int) - 1).toNat by omega] at cl
    have sR := hR.sl
    have hs3 := hk3.size
    have hk03 := hk02.non_trans hk3
    have hB3 := hB.keep hk3 (fun h => h)
    have q11 : cel H3 H.size 11 = some vp := by rw [hB3.cel]; rfl
    have hkr := Keep.refl S H3
    have nSr : ¬ S (sb r) := fun h => by
      have h1 := sR.cap.1
      have h2 := hRf (by omega)
      have := (hO.pS _ h).2.1
      omega
    have hO3 := hO.keep hk03 (fun _ _ _ _ h => h)
    have hP := hO3.prs
    have hS1 := hO.pS
    have hS2 := hO.nk
    have hS3 := hO.nt
    have hS4 := hO.nd
    refine zrun ?_ ?_
    refine cw_held (fun _ => Keep S H3) ⟨[5, 12, 14, 15, 17], [(1, 0), (4, 0), (11, 0)]⟩ (.op 0 (.op 1 (.op 2 (.op 3 (.op 4 (.op 6 (.op 7 (.op 8 (.op 9 (.op 10 (.op 11 (.op 5 (.op 12 (.op 13 (.op 14 (.op 15 (.op 16 (.op 17 (.nil))))))))))))))))))) panicOk_body mixed (by kernel_rfl) ?_
    refine zhrun ?_ ?_
    refine x_load rfl rfl (hpmk rfl (fun _ hk => hk.cel q11 (fun h => by have := (hS1 _ h).2.1; omega))) rfl (okq_load rfl rfl (by assumption)) ?_
    refine zhrun ?_ ?_
    refine x_load rfl rfl (hpmk rfl (fun _ hk => hk.cel c0 nSr)) rfl (okq_load rfl rfl (by assumption)) ?_
    refine zhrun ?_ ?_
    refine x_load rfl rfl (hpmk rfl (fun _ hk => hk.cel cl nSr)) rfl (okq_load rfl rfl (by assumption)) ?_
    refine zhrun ?_ ?_
    refine x_call rfl rfl rfl ⟨rfl, rfl⟩ (law_bytesR (s := p0) (by omega)) ?_
    rintro c H4 ⟨hk4, hc1, hc2⟩
    refine ⟨okm_keep hk4 (fun _ _ h => h.elim), ?_⟩
    refine zhrun ?_ ?_
    refine x_call rfl rfl rfl ⟨rfl, rfl⟩ (law_readR (s := pl) (by omega)) ?_
    rintro _ _ ⟨rfl, rfl⟩
    refine ⟨okm_keep (Keep.refl Non _) (fun _ _ h => h.elim), ?_⟩
    refine zhrun ?_ ?_
    refine x_build (cs := [c, .int .u64 (rdU pl)]) rfl rfl rfl (two_oneC (isSl_oneC hc1.sl)) rfl (okq_reg rfl rfl) ?_
    refine zhrun ?_ ?_
    refine x_buildSliceS1 (by rfl) rfl rfl (by omega) (by rfl) rfl ⟨rfl, rfl⟩ ?_
    intro H5 hn5
    refine ⟨okm_keep hn5.keep (fun _ _ h => h.elim), ?_⟩
    refine zhrun ?_ ?_
    have hk35 := hk4.non_trans hn5.keep
    obtain ⟨q, hq, ho, hd⟩ := hP.row
    have hS5 := hn5.size
    refine x_append (v := vp) (by rfl) (by rfl) (by rfl) rfl rfl rfl (ho.keep hk35 (fun _ h => h)) (isSl_some (Nat.le_refl _) (by omega)) (m := 1) (cx := [c, .int .u64 (rdU pl)]) rfl (hn5.blk.cels 0 2 (by simp)) (two_oneC' (isSl_oneC hc1.sl)) (by omega) rfl ⟨rfl, rfl⟩ ?_
    intro v' H6 hap
    have hfr := hP.fresh
    refine ⟨okm_keep hap.keep (fun z hz e => by rw [e.1]; exact hfr (by omega)), ?_⟩
    refine zhrun ?_ ?_
    have hc3 : Own 1 H5 c (bytR p0).length (bvs (bytR p0)) := hc1.keep hn5.keep (fun _ h => h)
    have hPn := PoS.snoc (p := (bytR p0, rdU pl)) hq ho hd hfr hk35 hc3 hc2 hap
    have hs35 := hk35.size
    have hs56 := hap.keep.size
    have nvb : ∀ z, H.size ≤ z → ¬ (z = sb vp ∧ o.pairs.length + 1 ≤ sc vp ∧ 0 < 1) := fun z hz e => by
      have := (hS1 _ (hfr (by omega))).2.1
      omega
    have hB6 := (hB3.keep hk35 (fun h => h)).keep hap.keep (nvb _ (Nat.le_refl _))
    have ocv : oneC v' = true := isSl_oneC hap.own.sl
    refine x_store rfl rfl rfl ocv hB6 (by simp [opCells]) ⟨rfl, rfl⟩ ?_
    intro H7 hB7 hk7 hs7
    refine ⟨okm_free (by intro c; cases c <;> kernel_rfl), ?_⟩
    refine zhrun ?_ ?_
    refine zrun ?_ ?_
    have hZ7 := (((hZ.keep hk3 (fun h => h)).keep hk35 (fun h => h)).keep hap.keep (nvb _ (by omega))).keep hk7 (by omega)
    obtain ⟨g1, g2, g3, g4, g5, g6, _, _, _, _, _⟩ := hO3
    have l1 := hO.key.lt
    have l2 := hO.tov.lt
    have l3 := hO.data.lt
    have far : ∀ {u : Value}, (0 < sc u → ¬ S (sb u)) → 0 < sc u → ¬ (sb u = sb vp ∧ o.pairs.length + 1 ≤ sc vp ∧ 0 < 1) := fun h hc e => h hc (by rw [e.1]; exact hfr (by omega))
    refine nw_meet () (by repeat (first | exact True.intro | refine ⟨rfl, ?_⟩)) ⟨(fun z => S z ∨ (H3.size ≤ z ∧ z < H6.size)), vk, vt, vd, v', hB7, hZ7, fun H9 hk9 => ?_, fun z hz => hz.imp id (fun h => by omega), ?_⟩
    · have hs9 := hk9.size
      refine ⟨(((g1.keep hk35 (fun _ h => h)).keep hap.keep (far hS2)).keep hk7 (fun hc e => by have := l1 hc; omega)).keep hk9 (fun hc e => by have := l1 hc; omega), g2, (((g3.keep hk35 (fun _ h => h)).keep hap.keep (far hS3)).keep hk7 (fun hc e => by have := l2 hc; omega)).keep hk9 (fun hc e => by have := l2 hc; omega), g4, (((g5.keep hk35 (fun _ h => h)).keep hap.keep (far hS4)).keep hk7 (fun hc e => by have := l3 hc; omega)).keep hk9 (fun hc e => by have := l3 hc; omega), g6, (hPn.keep hk7 (fun z hz e => ?_)).keep hk9 (fun z hz e => ?_), fun z hz => ?_, fun hc hz => ?_, fun hc hz => ?_, fun hc hz => ?_⟩
      · rcases hz with hz | hz
        · have := (hS1 _ hz).2.1
          omega
        · omega
      · rcases hz with hz | hz
        · have := (hS1 _ hz).2.1
          omega
        · omega
      · rcases hz with hz | hz
        · have := hS1 _ hz
          exact ⟨this.1, by omega, this.2.2⟩
        · exact ⟨by omega, by omega, by omega⟩
      · rcases hz with hz | hz
        · exact hS2 hc hz
        · have := l1 hc
          omega
      · rcases hz with hz | hz
        · exact hS3 hc hz
        · have := l2 hc
          omega
      · rcases hz with hz | hz
        · exact hS4 hc hz
        · have := l3 hc
          omega
    · refine (((hk03.non_trans hk35).trans hap.keep).trans hk7).mono fun z hz e => ?_
      rcases e with (e | e) | e
      · exact e.elim
      · rw [e.1.1]
        exact hfr (by omega)
      · omega
  · rw [decide_eq_false e]
    rw [if_neg e] at hT
    subst hT
    refine zrun ?_ ?_
    exact nw_meet () (by repeat (first | exact True.intro | refine ⟨rfl, ?_⟩)) ⟨S, vk, vt, vd, vp, hB, hZ, fun H9 hk9 => hO.keep (hk02.old hk9 (fun z hz e => by omega)) (fun _ _ _ _ h => h), fun z hz => .inl hz, hk02.mono fun _ _ h => h.elim⟩
end Go.Proofs.YtbcflfkajkmkdaaDoor.X
