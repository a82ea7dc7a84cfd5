/- Chapter 24, the program: an operation's line. -/
import Derived.Test.YtbcflfkajkmkdaaDoorSy2
import Derived.Test.YtbcflfkajkmkdaaDoorPrs
namespace Go.Proofs.YtbcflfkajkmkdaaDoor.X
open Go Go.Proofs Go.RowKit
set_option linter.unusedVariables false
set_option linter.unusedSimpArgs false
set_option maxRecDepth 10000
set_option maxHeartbeats 8000000

section
variable {P : Program} {n : Nat} {B : Exit → Act → World → Prop} {w0 : World} {md : Md} {ops : List Oper} {rest : OT} {k : K} {σ : Sl} {H : Heap} {i : Nat}
variable {d : Nat} {ty : TypeId} {pos : String} {after : Array Edge} {g : Option (Nat × Bool)}
theorem x_allocT {dst : Option Nat} {t s bb : Nat} {zs : List Value} [hI : Inf P t s bb (.agg zs.toArray)] (hg : gd ops σ g = some true) (hd : dstOk dst n = true) (he : okE ops md i ⟨dst, .alloc t, ty, pos, after, g⟩)
    (h : okm ops md i H (H.push (.cells zs.toArray t (0, 0))) ∧ XW P n B w0 md ops rest k (putS dst (ptr H.size 0) σ) (H.push (.cells zs.toArray t (0, 0)))) : XW P n B w0 md ops (.op i ⟨dst, .alloc t, ty, pos, after, g⟩ rest) k σ H := by
  refine x_eff (E := fun u H' => u = ptr H.size 0 ∧ H' = H.push (.cells zs.toArray t (0, 0))) he hg hd (fun a w ha hw N Q hN => ?_) (fun u H' ⟨e1, e2⟩ => by subst e1 e2; exact h)
  have e := hw.heap
  subst e
  have e1 : (execOp a.eval ⟨dst, .alloc t, ty, pos, after, g⟩).run P w = .ok (.value (ptr w.heap.size 0)) { w with heap := w.heap.push (.cells zs.toArray t (0, 0)) } := by
    have hr : (newRow t zs.toArray).run P w = .ok ⟨w.heap.size, 0, none⟩ { w with heap := w.heap.push (.cells zs.toArray t (0, 0)) } := rfl
    simp [execOp, Instr.alloc, run_zero hI, newVar, Value.cells, hr]
  rw [e1, Oper.upon_value]
  exact hN _ _ ⟨rfl, hw.os, hw.tape, hw.output⟩ ⟨rfl, rfl⟩
end

structure OpV (H : Heap) (vk vt vd vp : Value) (o : Opn) : Prop where
  key : Bs H vk o.key
  tov : Bs H vt o.to
  data : Bs H vd o.data
  pairs : Ps H vp o.pairs
def opCells (o : Opn) (vk vt vd vp : Value) : List Value := [.int .i64 o.kind, .int .i64 o.slot, .int .i64 o.a, .int .i64 o.b, .int .i64 o.cursor, .int .i64 o.tag, .int .i64 o.n, vk, vt, vd, .int .u64 o.val, vp]
structure OpSm (o : Opn) : Prop where
  key : o.key.length ≤ 100000
  tol : o.to.length ≤ 100000
  data : o.data.length ≤ 100000
  pairs : o.pairs.length ≤ 100000
  each : ∀ p ∈ o.pairs, p.1.length ≤ 100000
theorem OpV.keepN {H H' : Heap} {vk vt vd vp : Value} {o : Opn} (h : OpV H vk vt vd vp o) (k : Keep Non H H') : OpV H' vk vt vd vp o := ⟨h.key.keepN k, h.tov.keepN k, h.data.keepN k, h.pairs.keepN k⟩
theorem Ps.keep_old {S : Nat → Prop} {H0 H H' : Heap} {v : Value} {l : List Pr} (h : Ps H0 v l) (k0 : Keep Non H0 H) (k : Keep S H H') (hS : ∀ z, z < H0.size → ¬ S z) : Ps H' v l := h.keepN (k0.old k hS)

theorem joinS_length {ps : List Bytes} {M : Nat} (h : ∀ p ∈ ps, p.length ≤ M) : (joinS ps).length ≤ (M + 1) * ps.length := by
  induction ps with
  | nil => simp [joinS]
  | cons p ps ih =>
    have e : joinS (p :: ps) = 32 :: (p ++ joinS ps) := by simp [joinS]
    have h1 := h p List.mem_cons_self
    have h2 := ih (fun q hq => h q (List.mem_cons_of_mem _ hq))
    rw [e, List.length_cons, List.length_append, List.length_cons, Nat.mul_succ]
    omega
theorem nameOf_length (k : Int) : (nameOf k).length ≤ 7 := by
  have : ∀ l ∈ names24, l.length ≤ 7 := by decide
  unfold nameOf
  rw [List.getD]
  cases h : names24[k.toNat]? with
  | none => simp
  | some l => exact this l (List.mem_of_getElem? h)
theorem part_length {o : Opn} (hs : OpSm o) (ho : OpOk o) {p : Bytes} (h : p ∈ partsOf o) : p.length ≤ 200040 := by
  unfold partsOf at h
  rw [List.mem_append, List.mem_append, List.mem_append] at h
  have hi : ∀ {n : Int}, I64 n → (Lib.itoa n).length ≤ 21 := fun h => Lib.itoa_length_le _ h.1 h.2
  rcases h with h | h | h | h
  · rw [List.mem_flatMap] at h
    obtain ⟨x, hx, h⟩ := h
    rw [mem_pI h]
    simp only [numF, List.mem_cons, List.not_mem_nil, or_false] at hx
    have h1 := hi ho.slot
    have h2 := hi ho.a
    have h3 := hi ho.b
    have h4 := hi ho.cursor
    have h5 := hi ho.tag
    have h6 := hi ho.n
    rcases hx with rfl | rfl | rfl | rfl | rfl | rfl <;> simp [nSlot, nA, nB, nCursor, nTag, nN] <;> omega
  · rw [List.mem_flatMap] at h
    obtain ⟨x, hx, h⟩ := h
    rw [mem_pB h]
    simp only [bytF, List.mem_cons, List.not_mem_nil, or_false] at hx
    have h1 := hs.key
    have h2 := hs.tol
    have h3 := hs.data
    rcases hx with rfl | rfl | rfl <;> simp [nKey, nTo, nData, hexB_length] <;> omega
  · rw [mem_pU h]
    have := dec_le ho.val
    simp [nVal]
    omega
  · rw [List.mem_map] at h
    obtain ⟨x, hx, rfl⟩ := h
    have h1 := hs.each x hx
    have h2 := dec_le (ho.pairs x hx)
    simp [pP, nPair, hexB_length]
    omega
theorem partsOf_length {o : Opn} (hs : OpSm o) : (partsOf o).length ≤ 100010 := by
  have h1 : ∀ nm n, (pI nm n).length ≤ 1 := fun nm n => by unfold pI; split <;> simp
  have h2 : ∀ nm n, (pB nm n).length ≤ 1 := fun nm n => by unfold pB; split <;> simp
  have h3 : ∀ nm n, (pU nm n).length ≤ 1 := fun nm n => by unfold pU; split <;> simp
  have := hs.pairs
  have a1 := h1 nSlot o.slot
  have a2 := h1 nA o.a
  have a3 := h1 nB o.b
  have a4 := h1 nCursor o.cursor
  have a5 := h1 nTag o.tag
  have a6 := h1 nN o.n
  have a7 := h2 nKey o.key
  have a8 := h2 nTo o.to
  have a9 := h2 nData o.data
  have a10 := h3 nVal o.val
  simp only [partsOf, numF, bytF, List.flatMap_cons, List.flatMap_nil, List.append_nil, List.length_append, List.length_map]
  omega
/-- what was said so far is short -/
theorem said_le {o : Opn} (hs : OpSm o) (ho : OpOk o) {ps r : List Bytes} (h : partsOf o = ps ++ r) : (nameOf o.kind ++ joinS ps).length ≤ 40000000000 := by
  have h1 : ∀ p ∈ ps, p.length ≤ 200040 := fun p hp => part_length hs ho (by rw [h]; exact List.mem_append_left _ hp)
  have h2 := joinS_length h1
  have h3 := partsOf_length hs
  rw [h, List.length_append] at h3
  have h4 := nameOf_length o.kind
  rw [List.length_append]
  have h5 : (200040 + 1) * ps.length ≤ 200041 * 100010 := Nat.mul_le_mul_left _ (by omega)
  omega
theorem join_pI (nm : Bytes) (n : Int) : (if (n != 0) = true then 32 :: (nm ++ 61 :: Lib.itoa n) else []) = joinS (pI nm n) := by
  unfold pI
  by_cases h : n = 0
  · simp [h, joinS]
  · simp [h, joinS]
theorem join_pB (nm l : Bytes) : (if decide ((l.length : Int) > 0) = true then 32 :: (nm ++ 61 :: hexB l) else []) = joinS (pB nm l) := by
  unfold pB
  cases l with
  | nil => simp [joinS]
  | cons x l => simp [joinS]
theorem join_pU (nm : Bytes) (n : Int) : (if (n != 0) = true then 32 :: (nm ++ 61 :: dec n) else []) = joinS (pU nm n) := by
  unfold pU
  by_cases h : n = 0
  · simp [h, joinS]
  · simp [h, joinS]
/-- one writing behind another -/
theorem BdTo.step {H H1 H1' H2 : Heap} {b : Nat} {u u1 : Value} {l2 : Bytes} (hk : Keep (fun z => z = b ∨ u.ownBlock = some z) H H1) (hp : u1.ownBlock = u.ownBlock ∨ ∀ g, u1.ownBlock = some g → H.size ≤ g) (hn : Keep Non H1 H1') (h : BdTo H1' b u1 l2 H2) : BdTo H b u l2 H2 := by
  obtain ⟨u2, h1, h2, h3⟩ := h
  have hs1 := hk.size
  have hs2 := hn.size
  refine ⟨u2, h1, (hk.trans (hn.trans h2)).mono ?_, ?_⟩
  · rintro z hz (e | ⟨e | ⟨e | e, _⟩, _⟩)
    · exact e
    · exact e.elim
    · exact .inl e
    · rcases hp with hp | hp
      · rw [hp] at e; exact .inr e
      · have := hp z e; omega
  · rcases h3 with h3 | h3
    · rcases hp with hp | hp
      · exact .inl (h3.trans hp)
      · exact .inr fun g hg => hp g (by rw [← h3]; exact hg)
    · exact .inr fun g hg => by have := h3 g hg; omega
theorem Bd.keepN {H H' : Heap} {b : Nat} {v : Value} {l : Bytes} (h : Bd H b v l) (k : Keep Non H H') : Bd H' b v l := h.keep k (fun h => h) (fun _ _ h => h)
theorem Bd.new (H : Heap) : Bd (H.push (.cells #[.pointer none, .slice none 0 0] 49 (0, 0))) H.size (.slice none 0 0) [] :=
  ⟨⟨_, .inl rfl, by simp⟩, ⟨{ heap := _, tape := fun _ _ => 0, drawn := 0, os := default, output := #[] }, rfl, rfl, .inl ⟨rfl, rfl⟩⟩, by simp [Value.ownBlock]⟩

def fN (o : Opn) (j : Nat) : List Bytes := ((numF o).take j).flatMap fun x => pI x.1 x.2
def fB (o : Opn) (j : Nat) : List Bytes := ((bytF o).take j).flatMap fun x => pB x.1 x.2
def fP (o : Opn) (j : Nat) : List Bytes := (o.pairs.take j).map pP
theorem fN_succ {o : Opn} {j : Nat} {x : Bytes × Int} (h : (numF o)[j]? = some x) : fN o (j + 1) = fN o j ++ pI x.1 x.2 := by
  unfold fN
  rw [List.take_add_one, h, List.flatMap_append]
  simp
theorem fB_succ {o : Opn} {j : Nat} {x : Bytes × Bytes} (h : (bytF o)[j]? = some x) : fB o (j + 1) = fB o j ++ pB x.1 x.2 := by
  unfold fB
  rw [List.take_add_one, h, List.flatMap_append]
  simp
theorem fP_succ {o : Opn} {j : Nat} {x : Pr} (h : o.pairs[j]? = some x) : fP o (j + 1) = fP o j ++ [pP x] := by
  unfold fP
  rw [List.take_add_one, h, List.map_append]
  rfl
theorem parts_fN (o : Opn) (j : Nat) : partsOf o = fN o j ++ (((numF o).drop j).flatMap (fun x => pI x.1 x.2) ++ (fB o 3 ++ (pU nVal o.val ++ o.pairs.map pP))) := by
  have e : (numF o).flatMap (fun x => pI x.1 x.2) = fN o j ++ ((numF o).drop j).flatMap (fun x => pI x.1 x.2) := by
    unfold fN
    rw [← List.flatMap_append, List.take_append_drop]
  unfold partsOf
  rw [e, List.append_assoc]
  rfl
theorem parts_fB (o : Opn) (j : Nat) : partsOf o = (fN o 6 ++ fB o j) ++ (((bytF o).drop j).flatMap (fun x => pB x.1 x.2) ++ (pU nVal o.val ++ o.pairs.map pP)) := by
  have e : (bytF o).flatMap (fun x => pB x.1 x.2) = fB o j ++ ((bytF o).drop j).flatMap (fun x => pB x.1 x.2) := by
    unfold fB
    rw [← List.flatMap_append, List.take_append_drop]
  unfold partsOf
  rw [e, List.append_assoc, List.append_assoc]
  rfl
theorem parts_fP (o : Opn) (j : Nat) : partsOf o = (fN o 6 ++ (fB o 3 ++ (pU nVal o.val ++ fP o j))) ++ (o.pairs.drop j).map pP := by
  have e : o.pairs.map pP = fP o j ++ (o.pairs.drop j).map pP := by
    unfold fP
    rw [← List.map_append, List.take_append_drop]
  unfold partsOf
  rw [e]
  simp only [List.append_assoc]
  rfl
theorem Bd.lt {H : Heap} {b : Nat} {v : Value} {l : Bytes} (h : Bd H b v l) {g : Nat} (hg : v.ownBlock = some g) : g < H.size := by
  obtain ⟨w, hw, _, h2⟩ := h.row
  rcases h2 with ⟨rfl, _⟩ | ⟨g', cap, cur, rfl, _, h4, _⟩
  · cases hg
  · cases hg
    rw [← hw]
    exact lt_of_blk h4
theorem num_ok {o : Opn} (ho : OpOk o) {x : Bytes × Int} (h : x ∈ numF o) : I64 x.2 ∧ x.1.length ≤ 6 := by
  simp only [numF, List.mem_cons, List.not_mem_nil, or_false] at h
  rcases h with rfl | rfl | rfl | rfl | rfl | rfl
  · exact ⟨ho.slot, by dsimp only; decide⟩
  · exact ⟨ho.a, by dsimp only; decide⟩
  · exact ⟨ho.b, by dsimp only; decide⟩
  · exact ⟨ho.cursor, by dsimp only; decide⟩
  · exact ⟨ho.tag, by dsimp only; decide⟩
  · exact ⟨ho.n, by dsimp only; decide⟩
theorem name_cell {H : Heap} {k : Int} (hL : Laid24 H) (h0 : 0 ≤ k) (h1 : k < 23) : cel H 0 (0 + k.toNat) = some (strV (nameOf k)) := by
  have hl : k.toNat < names24.length := by simp [names24]; omega
  rw [hL.names.cel, Nat.zero_add, List.getElem?_toArray, List.getElem?_map, List.getElem?_eq_getElem hl]
  unfold nameOf
  rw [List.getD, List.getElem?_eq_getElem hl]
  rfl
theorem law_Say {vk vt vd vp : Value} {o : Opn} {H : Heap} (hV : OpV H vk vt vd vp o) (ho : OpOk o) (hs : OpSm o) (hk64 : I64 o.kind) (hL : Laid24 H) : Ret Tryd.prog 9 [.agg (opCells o vk vt vd vp).toArray] H (fun r H' => Keep Non H H' ∧ r = strV (sayO o)) := by
  have sk := hV.key.sl
  have st := hV.tov.sl
  have sd := hV.data.sl
  have sp := hV.pairs.sl
  obtain ⟨hk0, hk1⟩ := hk64
  refine ret_of Tryd.func9 rfl rfl rfl rfl ?_
  intro w0
  refine zrun ?_ ?_
  refine x_box (cs := opCells o vk vt vd vp) rfl rfl rfl trivial ?_
  intro H1 hn1
  refine ⟨trivial, ?_⟩
  have c0 : cel H1 H.size 0 = some (.int .i64 o.kind) := by rw [hn1.blk.cel]; rfl
  refine zrun ?_ ?_
  refine x_load rfl rfl (hpmt (c0)) rfl trivial ?_
  refine zrun ?_ ?_
  by_cases hkk : o.kind < 1 ∨ 23 ≤ o.kind
  · have e : sayO o = [] := by unfold sayO; rw [if_pos hkk]
    by_cases hk2 : o.kind < 1
    · rw [decide_eq_true hk2]
      refine zrun ?_ ?_
      exact cw_ret1 rfl rfl ⟨hn1.keep, by rw [e]; rfl⟩
    · rw [decide_eq_false hk2]
      refine zrun ?_ ?_
      refine x_load rfl rfl (hpmt (c0)) rfl trivial ?_
      refine zrun ?_ ?_
      rw [decide_eq_true (show o.kind ≥ 23 by omega)]
      refine zrun ?_ ?_
      exact cw_ret1 rfl rfl ⟨hn1.keep, by rw [e]; rfl⟩
  · have hk3 : 1 ≤ o.kind ∧ o.kind < 23 := by omega
    have e : sayO o = sayB o := by unfold sayO; rw [if_neg hkk]
    rw [e]
    rw [decide_eq_false (show ¬ o.kind < 1 by omega)]
    refine zrun ?_ ?_
    refine x_load rfl rfl (hpmt (c0)) rfl trivial ?_
    refine zrun ?_ ?_
    rw [decide_eq_false (show ¬ o.kind ≥ 23 by omega)]
    refine zrun ?_ ?_
    refine x_allocT (zs := [.pointer none, .slice none 0 0]) rfl rfl trivial ?_
    refine ⟨trivial, ?_⟩
    have hb2 := Bd.new H1
    have hn2 : Keep Non H1 (H1.push (.cells #[.pointer none, .slice none 0 0] 49 (0, 0))) := keep_push _ _
    generalize hH2 : H1.push (.cells #[.pointer none, .slice none 0 0] 49 (0, 0)) = H2 at hb2 hn2
    have hs1 := hn1.size
    have hs2 := hn2.size
    have hsz9 := hL.size
    have hL2 := (hL.keepN hn1.keep).keepN hn2
    have hbx : Blk H2 H.size (opCells o vk vt vd vp) := hn1.blk.keep hn2 (fun h => h)
    have c0' : cel H2 H.size 0 = some (.int .i64 o.kind) := by rw [hbx.cel]; rfl
    refine zrun ?_ ?_
    refine x_load rfl rfl (hpmt (c0')) rfl trivial ?_
    refine zrun ?_ ?_
    refine x_indexAddrB rfl rfl rfl (by omega) (by omega) rfl trivial ?_
    refine zrun ?_ ?_
    refine x_load rfl rfl (hpmt (name_cell hL2 (by omega) hk3.2)) rfl trivial ?_
    refine zrun ?_ ?_
    refine x_call rfl rfl rfl trivial (law_WriteS hb2 (by have := nameOf_length o.kind; simp; omega)) ?_
    rintro _ H3 ⟨rfl, u0, hb3, hk3', hp3⟩
    refine ⟨trivial, ?_⟩
    have hp3 : ∀ g, u0.ownBlock = some g → H2.size ≤ g := fun g hg => by
      rcases hp3 with e | e
      · rw [hg] at e; cases e
      · exact e g hg
    have hk23 : Keep (· = H1.size) H2 H3 := hk3'.mono fun z hz e => e.elim id (fun e => by cases e)
    have hs3 := hk23.size
    have hL3 := hL2.keepS hk23 (fun z hz => by omega)
    have hbx3 : Blk H3 H.size (opCells o vk vt vd vp) := hbx.keep hk23 (by omega)
    have q1 : cel H3 H.size 1 = some (.int .i64 o.slot) := by rw [hbx3.cel]; rfl
    have q2 : cel H3 H.size 2 = some (.int .i64 o.a) := by rw [hbx3.cel]; rfl
    have q3 : cel H3 H.size 3 = some (.int .i64 o.b) := by rw [hbx3.cel]; rfl
    have q4 : cel H3 H.size 4 = some (.int .i64 o.cursor) := by rw [hbx3.cel]; rfl
    have q5 : cel H3 H.size 5 = some (.int .i64 o.tag) := by rw [hbx3.cel]; rfl
    have q6 : cel H3 H.size 6 = some (.int .i64 o.n) := by rw [hbx3.cel]; rfl
    refine zrun ?_ ?_
    refine x_makeFunc rfl rfl rfl rfl trivial ?_
    refine zrun ?_ ?_
    refine x_load rfl rfl (hpmt (q1)) rfl trivial ?_
    refine zrun ?_ ?_
    refine x_load rfl rfl (hpmt (q2)) rfl trivial ?_
    refine zrun ?_ ?_
    refine x_load rfl rfl (hpmt (q3)) rfl trivial ?_
    refine zrun ?_ ?_
    refine x_load rfl rfl (hpmt (q4)) rfl trivial ?_
    refine zrun ?_ ?_
    refine x_load rfl rfl (hpmt (q5)) rfl trivial ?_
    refine zrun ?_ ?_
    refine x_load rfl rfl (hpmt (q6)) rfl trivial ?_
    refine zrun ?_ ?_
    refine x_buildSlice (vs := (numF o).map fun x => .int .i64 x.2) rfl rfl rfl rfl (by omega) (by simp [numF, oneC, Value.oneCell']) rfl trivial ?_
    intro H4 hn4
    refine ⟨trivial, ?_⟩
    have hb3 : Bd H3 H1.size u0 (nameOf o.kind) := hb3
    have hb1s : H1.size < H3.size := by have := lt_of_blk hb3.blk.choose_spec.2; omega
    have hS : ∀ z, z < H1.size ∨ z = H3.size → ¬ (z = H1.size ∨ u0.ownBlock = some z) := fun z hz e => by
      rcases e with e | e
      · omega
      · have h1 := hb3.lt e
        have h2 := hp3 z e
        omega
    have hL4 := hL3.keepN hn4.keep
    have hbx4 := hbx3.keep hn4.keep (fun h => h)
    have hk04 : Keep Non H H4 := ((hn1.keep.non_trans hn2).old hk23 (fun z hz e => by omega)).non_trans hn4.keep
    have sC : IsSl (.slice (some ⟨H3.size, 0, none⟩) 6 6) 6 := isSl_some (by omega) (by omega)
    have hwc : ∀ j x, (numF o)[j]? = some x → cel H4 H3.size (0 + j) = some (.int .i64 x.2) := fun j x hx => by rw [Nat.zero_add, hn4.blk.cel, List.getElem?_map, hx]; rfl
    refine zrun ?_ ?_
    refine cw_loop (fun j : Nat => [(1, ptr H.size 0), (3, ptr H1.size 0), (4, .func (.func 19) #[] #[ptr H1.size 0]), (37, .slice (some ⟨H3.size, 0, none⟩) 6 6), (38, .int .i64 6), (39, .int .i64 j)]) (fun j H' => j ≤ 6 ∧ BdTo H4 H1.size u0 (nameOf o.kind ++ joinS (fN o j)) H') (fun j => 6 - j) 0 (by repeat (first | exact True.intro | refine ⟨rfl, ?_⟩)) ⟨by omega, u0, by rw [show nameOf o.kind ++ joinS (fN o 0) = nameOf o.kind by simp [fN, joinS]]; exact hb3.keepN hn4.keep, Keep.refl _ _, .inl rfl⟩ ?_
    rintro j Hj ⟨hj, u1, hb1, hk1, hp1⟩
    refine zrun ?_ ?_
    refine cw_cond rfl (fun h1 => ?_) (fun h1 => ?_) <;> (try simp at h1)
    · obtain ⟨x, hx⟩ : ∃ x, (numF o)[j]? = some x := ⟨_, List.getElem?_eq_getElem (show j < (numF o).length by simp [numF]; omega)⟩
      have hx1 := num_ok ho (List.mem_of_getElem? hx)
      have hLj := hL4.keepS hk1 (fun z hz => hS z (.inl (by omega)))
      have hcj := hk1.cel (hwc j x hx) (hS _ (.inr rfl))
      have sN : ∀ a : Addr, IsSl (.slice (some ⟨a.block, 0, none⟩) 6 6) 6 := fun a => isSl_some (by omega) (by omega)
      refine zrun ?_ ?_
      refine x_load rfl rfl (hpmt (hcj)) rfl trivial ?_
      refine zrun ?_ ?_
      refine cw_held (fun _ _ => True) ⟨[1, 4, 8, 9], []⟩ (.op 0 (.op 2 (.op 5 (.op 6 (.op 7 (.alt (.op 1 (.op 3 (.alt (.op 4 (.op 8 (.op 9 (.nil)))) (.op 8 (.op 4 (.op 9 (.nil))))))) (.op 8 (.op 1 (.op 3 (.op 4 (.op 9 (.nil)))))))))))) panicOk_body mixed (by kernel_rfl) ?_
      refine zhrun ?_ ?_
      have hnon0 := Keep.refl Non Hj
      refine x_alt ?_ ?_
      · refine x_buildSlice (vs := (numF o).map fun x => strV x.1) rfl rfl rfl rfl (by omega) (by simp [numF, strV, oneC, Value.oneCell']) rfl ⟨rfl, rfl⟩ ?_
        intro Hs hns
        refine ⟨okm_nil rfl, ?_⟩
        have hnon1 := hnon0.non_trans hns.keep
        have hnm : cel Hs Hj.size (0 + j) = some (strV x.1) := by rw [Nat.zero_add, hns.blk.cel, List.getElem?_map, hx]; rfl
        have sNm : IsSl (.slice (some ⟨Hj.size, 0, none⟩) 6 6) 6 := isSl_some (by omega) (by omega)
        refine zhrun ?_ ?_
        refine x_alt ?_ ?_
        · refine x_load_e rfl rfl hnm rfl ⟨rfl, rfl⟩ ?_
          refine zhrun ?_ ?_
          refine x_call rfl rfl rfl ⟨rfl, rfl⟩ (law_Itoa hx1.1 (hLj.keepN hnon1)) ?_
          rintro _ Hi ⟨hki, rfl⟩
          refine ⟨okm_nil rfl, ?_⟩
          have hnon3 := hnon1.non_trans hki
          have hnm2 := hki.cel hnm (fun h => h)
          refine zhrun ?_ ?_
          refine x_callv rfl rfl rfl rfl ⟨rfl, rfl⟩ (law_fieldS (hb1.keepN hnon3) (by have h1 := said_le hs ho (parts_fN o j); have h2 := Lib.itoa_length_le _ hx1.1.1 hx1.1.2; have h3 := hx1.2; omega)) ?_
          rintro _ Hz ⟨rfl, hbz⟩
          refine ⟨okm_nil rfl, ?_⟩
          refine zhrun ?_ ?_
          refine zrun ?_ ?_
          refine nw_round (j + 1) (by repeat (first | exact True.intro | refine ⟨rfl, ?_⟩)) ⟨by omega, ?_⟩ (by omega)
          have hf := BdTo.step hk1 hp1 hnon3 hbz
          rw [join_pI, List.append_assoc, ← joinS_append, ← fN_succ hx] at hf
          exact hf
        · refine x_call rfl rfl rfl ⟨rfl, rfl⟩ (law_Itoa hx1.1 (hLj.keepN hnon1)) ?_
          rintro _ Hi ⟨hki, rfl⟩
          refine ⟨okm_nil rfl, ?_⟩
          have hnon2 := hnon1.non_trans hki
          have hnm2 := hki.cel hnm (fun h => h)
          refine zhrun ?_ ?_
          refine x_load_e rfl rfl hnm2 rfl ⟨rfl, rfl⟩ ?_
          refine zhrun ?_ ?_
          refine x_callv rfl rfl rfl rfl ⟨rfl, rfl⟩ (law_fieldS (hb1.keepN hnon2) (by have h1 := said_le hs ho (parts_fN o j); have h2 := Lib.itoa_length_le _ hx1.1.1 hx1.1.2; have h3 := hx1.2; omega)) ?_
          rintro _ Hz ⟨rfl, hbz⟩
          refine ⟨okm_nil rfl, ?_⟩
          refine zhrun ?_ ?_
          refine zrun ?_ ?_
          refine nw_round (j + 1) (by repeat (first | exact True.intro | refine ⟨rfl, ?_⟩)) ⟨by omega, ?_⟩ (by omega)
          have hf := BdTo.step hk1 hp1 hnon2 hbz
          rw [join_pI, List.append_assoc, ← joinS_append, ← fN_succ hx] at hf
          exact hf
      · refine x_call rfl rfl rfl ⟨rfl, rfl⟩ (law_Itoa hx1.1 (hLj.keepN hnon0)) ?_
        rintro _ Hi ⟨hki, rfl⟩
        refine ⟨okm_nil rfl, ?_⟩
        have hnon1 := hnon0.non_trans hki
        refine zhrun ?_ ?_
        refine x_buildSlice (vs := (numF o).map fun x => strV x.1) rfl rfl rfl rfl (by omega) (by simp [numF, strV, oneC, Value.oneCell']) rfl ⟨rfl, rfl⟩ ?_
        intro Hs hns
        refine ⟨okm_nil rfl, ?_⟩
        have hnon2 := hnon1.non_trans hns.keep
        have hnm : cel Hs Hi.size (0 + j) = some (strV x.1) := by rw [Nat.zero_add, hns.blk.cel, List.getElem?_map, hx]; rfl
        have sNm : IsSl (.slice (some ⟨Hi.size, 0, none⟩) 6 6) 6 := isSl_some (by omega) (by omega)
        refine zhrun ?_ ?_
        refine x_load_e rfl rfl hnm rfl ⟨rfl, rfl⟩ ?_
        refine zhrun ?_ ?_
        refine x_callv rfl rfl rfl rfl ⟨rfl, rfl⟩ (law_fieldS (hb1.keepN hnon2) (by have h1 := said_le hs ho (parts_fN o j); have h2 := Lib.itoa_length_le _ hx1.1.1 hx1.1.2; have h3 := hx1.2; omega)) ?_
        rintro _ Hz ⟨rfl, hbz⟩
        refine ⟨okm_nil rfl, ?_⟩
        refine zhrun ?_ ?_
        refine zrun ?_ ?_
        refine nw_round (j + 1) (by repeat (first | exact True.intro | refine ⟨rfl, ?_⟩)) ⟨by omega, ?_⟩ (by omega)
        have hf := BdTo.step hk1 hp1 hnon2 hbz
        rw [join_pI, List.append_assoc, ← joinS_append, ← fN_succ hx] at hf
        exact hf
    · obtain rfl : j = 6 := by omega
      clear h1
      have hu1 : ∀ g, u1.ownBlock = some g → H2.size ≤ g := fun g hg => by
        rcases hp1 with e | e
        · exact hp3 g (by rw [← e]; exact hg)
        · have := e g hg
          have := hn4.size
          omega
      have hk0j := hk04.old hk1 (fun z hz => hS z (.inl (by omega)))
      have hLj := hL4.keepS hk1 (fun z hz => hS z (.inl (by omega)))
      have hbxj := hbx4.keep hk1 (hS _ (.inl (by omega)))
      have hs4 := hn4.size
      have hsj := hk1.size
      have q7 : cel Hj H.size 7 = some vk := by rw [hbxj.cel]; rfl
      have q8 : cel Hj H.size 8 = some vt := by rw [hbxj.cel]; rfl
      have q9 : cel Hj H.size 9 = some vd := by rw [hbxj.cel]; rfl
      have ock := isSl_oneC sk
      have oct := isSl_oneC st
      have ocd := isSl_oneC sd
      clear hwc sC
      refine zrun ?_ ?_
      refine x_load rfl rfl (hpmt (q7)) rfl trivial ?_
      refine zrun ?_ ?_
      refine x_load rfl rfl (hpmt (q8)) rfl trivial ?_
      refine zrun ?_ ?_
      refine x_load rfl rfl (hpmt (q9)) rfl trivial ?_
      refine zrun ?_ ?_
      refine x_buildSlice (vs := [vk, vt, vd]) rfl rfl rfl rfl (by omega) (oc_cons ock (oc_cons oct (oc_cons ocd oc_nil))) rfl trivial ?_
      intro H5 hn5
      refine ⟨trivial, ?_⟩
      have hs5 := hn5.size
      have hS5 : ∀ z, z < H1.size ∨ z = Hj.size → ¬ (z = H1.size ∨ u1.ownBlock = some z) := fun z hz e => by
        rcases e with e | e
        · omega
        · have h1 := hb1.lt e
          have h2 := hu1 z e
          omega
      have hL5 := hLj.keepN hn5.keep
      have hbx5 := hbxj.keep hn5.keep (fun h => h)
      have hk05 : Keep Non H H5 := hk0j.non_trans hn5.keep
      have hb5 := hb1.keepN hn5.keep
      have sC : IsSl (.slice (some ⟨Hj.size, 0, none⟩) 3 3) 3 := isSl_some (by omega) (by omega)
      have hwc : ∀ (j : Nat) (x : Bytes × Bytes), (bytF o)[j]? = some x → ∃ y, cel H5 Hj.size (0 + j) = some y ∧ Bs H y x.2 := fun j x hx => by
        match j, hx with
        | 0, hx => cases hx; exact ⟨vk, by rw [hn5.blk.cel]; rfl, hV.key⟩
        | 1, hx => cases hx; exact ⟨vt, by rw [hn5.blk.cel]; rfl, hV.tov⟩
        | 2, hx => cases hx; exact ⟨vd, by rw [hn5.blk.cel]; rfl, hV.data⟩
        | n + 3, hx => simp [bytF] at hx
      refine zrun ?_ ?_
      refine cw_loop (fun j : Nat => [(1, ptr H.size 0), (3, ptr H1.size 0), (4, .func (.func 19) #[] #[ptr H1.size 0]), (61, .slice (some ⟨Hj.size, 0, none⟩) 3 3), (62, .int .i64 3), (63, .int .i64 j)]) (fun j H' => j ≤ 3 ∧ BdTo H5 H1.size u1 (nameOf o.kind ++ joinS (fN o 6 ++ fB o j)) H') (fun j => 3 - j) 0 (by repeat (first | exact True.intro | refine ⟨rfl, ?_⟩)) ⟨by omega, u1, by rw [show fN o 6 ++ fB o 0 = fN o 6 by simp [fB]]; exact hb5, Keep.refl _ _, .inl rfl⟩ ?_
      clear hk1 hp1 hb5 hb1
      clear hk0j hLj hbxj q7 q8 q9
      generalize hHb : Hj = Hb at hn5 hS5 hsj sC hwc hu1 hs5
      clear hHb Hj
      rintro j Hj ⟨hj, u2, hb1, hk1, hp1⟩
      refine zrun ?_ ?_
      refine cw_cond rfl (fun h1 => ?_) (fun h1 => ?_) <;> (try simp at h1)
      · obtain ⟨x, hx⟩ : ∃ x, (bytF o)[j]? = some x := ⟨_, List.getElem?_eq_getElem (show j < (bytF o).length by simp [bytF]; omega)⟩
        have hx1 : x.1.length ≤ 6 ∧ x.2.length ≤ 100000 := by
          have hm := List.mem_of_getElem? hx
          simp only [bytF, List.mem_cons, List.not_mem_nil, or_false] at hm
          rcases hm with rfl | rfl | rfl
          · exact ⟨by dsimp only; decide, hs.key⟩
          · exact ⟨by dsimp only; decide, hs.tol⟩
          · exact ⟨by dsimp only; decide, hs.data⟩
        obtain ⟨y, hy1, hy2⟩ := hwc j x hx
        have hcj := hk1.cel hy1 (hS5 _ (.inr rfl))
        have hBy := hy2.keepN (hk05.old hk1 (fun z hz => hS5 z (.inl (by omega))))
        have sy := hBy.sl
        refine zrun ?_ ?_
        refine x_load rfl rfl (hpmt (hcj)) rfl trivial ?_
        refine zrun ?_ ?_
        refine cw_held (fun _ _ => True) ⟨[1, 4, 9, 10], []⟩ (.op 0 (.op 2 (.op 5 (.op 6 (.op 7 (.op 8 (.alt (.op 1 (.op 3 (.alt (.op 4 (.op 9 (.op 10 (.nil)))) (.op 9 (.op 4 (.op 10 (.nil))))))) (.op 9 (.op 1 (.op 3 (.op 4 (.op 10 (.nil))))))))))))) panicOk_body mixed (by kernel_rfl) ?_
        refine zhrun ?_ ?_
        have hnon0 := Keep.refl Non Hj
        refine x_alt ?_ ?_
        · refine x_buildSlice (vs := (bytF o).map fun x => strV x.1) rfl rfl rfl rfl (by omega) (by simp [bytF, strV, oneC, Value.oneCell']) rfl ⟨rfl, rfl⟩ ?_
          intro Hs hns
          refine ⟨okm_nil rfl, ?_⟩
          have hnon1 := hnon0.non_trans hns.keep
          have hnm : cel Hs Hj.size (0 + j) = some (strV x.1) := by rw [Nat.zero_add, hns.blk.cel, List.getElem?_map, hx]; rfl
          have sNm : IsSl (.slice (some ⟨Hj.size, 0, none⟩) 3 3) 3 := isSl_some (by omega) (by omega)
          refine zhrun ?_ ?_
          refine x_alt ?_ ?_
          · refine x_load_e rfl rfl hnm rfl ⟨rfl, rfl⟩ ?_
            refine zhrun ?_ ?_
            refine x_call rfl rfl rfl ⟨rfl, rfl⟩ (law_told (hBy.keepN hnon1) hx1.2) ?_
            rintro _ Hi ⟨hki, rfl⟩
            refine ⟨okm_nil rfl, ?_⟩
            have hnon3 := hnon1.non_trans hki
            have hnm2 := hki.cel hnm (fun h => h)
            refine zhrun ?_ ?_
            refine x_callv rfl rfl rfl rfl ⟨rfl, rfl⟩ (law_fieldS (hb1.keepN hnon3) (by have h1 := said_le hs ho (parts_fB o j); rw [hexB_length]; have h3 := hx1.1; have h4 := hx1.2; omega)) ?_
            rintro _ Hz ⟨rfl, hbz⟩
            refine ⟨okm_nil rfl, ?_⟩
            refine zhrun ?_ ?_
            refine zrun ?_ ?_
            refine nw_round (j + 1) (by repeat (first | exact True.intro | refine ⟨rfl, ?_⟩)) ⟨by omega, ?_⟩ (by omega)
            have hf := BdTo.step hk1 hp1 hnon3 hbz
            rw [join_pB, List.append_assoc, ← joinS_append, List.append_assoc, ← fB_succ hx] at hf
            exact hf
          · refine x_call rfl rfl rfl ⟨rfl, rfl⟩ (law_told (hBy.keepN hnon1) hx1.2) ?_
            rintro _ Hi ⟨hki, rfl⟩
            refine ⟨okm_nil rfl, ?_⟩
            have hnon2 := hnon1.non_trans hki
            have hnm2 := hki.cel hnm (fun h => h)
            refine zhrun ?_ ?_
            refine x_load_e rfl rfl hnm2 rfl ⟨rfl, rfl⟩ ?_
            refine zhrun ?_ ?_
            refine x_callv rfl rfl rfl rfl ⟨rfl, rfl⟩ (law_fieldS (hb1.keepN hnon2) (by have h1 := said_le hs ho (parts_fB o j); rw [hexB_length]; have h3 := hx1.1; have h4 := hx1.2; omega)) ?_
            rintro _ Hz ⟨rfl, hbz⟩
            refine ⟨okm_nil rfl, ?_⟩
            refine zhrun ?_ ?_
            refine zrun ?_ ?_
            refine nw_round (j + 1) (by repeat (first | exact True.intro | refine ⟨rfl, ?_⟩)) ⟨by omega, ?_⟩ (by omega)
            have hf := BdTo.step hk1 hp1 hnon2 hbz
            rw [join_pB, List.append_assoc, ← joinS_append, List.append_assoc, ← fB_succ hx] at hf
            exact hf
        · refine x_call rfl rfl rfl ⟨rfl, rfl⟩ (law_told (hBy.keepN hnon0) hx1.2) ?_
          rintro _ Hi ⟨hki, rfl⟩
          refine ⟨okm_nil rfl, ?_⟩
          have hnon1 := hnon0.non_trans hki
          refine zhrun ?_ ?_
          refine x_buildSlice (vs := (bytF o).map fun x => strV x.1) rfl rfl rfl rfl (by omega) (by simp [bytF, strV, oneC, Value.oneCell']) rfl ⟨rfl, rfl⟩ ?_
          intro Hs hns
          refine ⟨okm_nil rfl, ?_⟩
          have hnon2 := hnon1.non_trans hns.keep
          have hnm : cel Hs Hi.size (0 + j) = some (strV x.1) := by rw [Nat.zero_add, hns.blk.cel, List.getElem?_map, hx]; rfl
          have sNm : IsSl (.slice (some ⟨Hi.size, 0, none⟩) 3 3) 3 := isSl_some (by omega) (by omega)
          refine zhrun ?_ ?_
          refine x_load_e rfl rfl hnm rfl ⟨rfl, rfl⟩ ?_
          refine zhrun ?_ ?_
          refine x_callv rfl rfl rfl rfl ⟨rfl, rfl⟩ (law_fieldS (hb1.keepN hnon2) (by have h1 := said_le hs ho (parts_fB o j); rw [hexB_length]; have h3 := hx1.1; have h4 := hx1.2; omega)) ?_
          rintro _ Hz ⟨rfl, hbz⟩
          refine ⟨okm_nil rfl, ?_⟩
          refine zhrun ?_ ?_
          refine zrun ?_ ?_
          refine nw_round (j + 1) (by repeat (first | exact True.intro | refine ⟨rfl, ?_⟩)) ⟨by omega, ?_⟩ (by omega)
          have hf := BdTo.step hk1 hp1 hnon2 hbz
          rw [join_pB, List.append_assoc, ← joinS_append, List.append_assoc, ← fB_succ hx] at hf
          exact hf
      · obtain rfl : j = 3 := by omega
        clear h1
        have hu2 : ∀ g, u2.ownBlock = some g → H2.size ≤ g := fun g hg => by
          rcases hp1 with e | e
          · exact hu1 g (by rw [← e]; exact hg)
          · have := e g hg
            omega
        have hk0j := hk05.old hk1 (fun z hz => hS5 z (.inl (by omega)))
        have hLj := hL5.keepS hk1 (fun z hz => hS5 z (.inl (by omega)))
        have hbxj := hbx5.keep hk1 (hS5 _ (.inl (by omega)))
        have hsj := hk1.size
        have hS6 : ∀ z, z < H1.size → ¬ (z = H1.size ∨ u2.ownBlock = some z) := fun z hz e => by
          rcases e with e | e
          · omega
          · have h2 := hu2 z e
            omega
        have q10 : cel Hj H.size 10 = some (.int .u64 o.val) := by rw [hbxj.cel]; rfl
        clear hwc sC hS5 hbx5 hL5 hk05
        have hkr := Keep.refl (fun z => z = H1.size ∨ u2.ownBlock = some z) Hj
        refine zrun ?_ ?_
        refine cw_held (fun _ => Keep (fun z => z = H1.size ∨ u2.ownBlock = some z) Hj) ⟨[6, 7], [(2, 0), (5, 0)]⟩ (.op 0 (.op 1 (.op 2 (.op 3 (.op 4 (.op 5 (.op 6 (.op 7 (.nil))))))))) panicOk_body mixed (by kernel_rfl) ?_
        refine zhrun ?_ ?_
        refine x_load rfl rfl (hpmk rfl (fun _ hk => hk.cel q10 (hS6 _ (by omega)))) rfl (okq_load rfl rfl (by assumption)) ?_
        refine zhrun ?_ ?_
        refine x_load rfl rfl (hpmk rfl (fun _ hk => hk.cel q10 (hS6 _ (by omega)))) rfl (okq_load rfl rfl (by assumption)) ?_
        refine zhrun ?_ ?_
        refine x_call rfl rfl rfl ⟨rfl, rfl⟩ (law_FormatUint ho.val hLj) ?_
        rintro _ H6 ⟨hk6, rfl⟩
        refine ⟨okm_keep hk6 (fun _ _ h => h.elim), ?_⟩
        refine zhrun ?_ ?_
        refine x_callv (vs := [strV nVal, .bool (o.val != 0), strV (dec o.val)]) rfl rfl rfl rfl ⟨rfl, rfl⟩ (law_fieldS (hb1.keepN hk6) (by have h1 := said_le hs ho (parts_fB o 3); have h2 := dec_le ho.val; have h3 : nVal.length = 3 := rfl; omega)) ?_
        rintro _ H7 ⟨rfl, hb7⟩
        have hkk7 : Keep (fun z => z = H1.size ∨ u2.ownBlock = some z) H6 H7 := let ⟨_, _, k, _⟩ := hb7; k
        refine ⟨okm_keep hkk7 (fun _ _ h => h), ?_⟩
        refine zhrun ?_ ?_
        rw [join_pU, List.append_assoc, ← joinS_append, List.append_assoc] at hb7
        obtain ⟨u3, hb7, hk7, hp7⟩ := BdTo.step (Keep.refl _ _) (.inl rfl) hk6 hb7
        have hu3 : ∀ g, u3.ownBlock = some g → H2.size ≤ g := fun g hg => by
          rcases hp7 with e | e
          · exact hu2 g (by rw [← e]; exact hg)
          · have := e g hg
            omega
        have hS7 : ∀ z, z < H1.size → ¬ (z = H1.size ∨ u3.ownBlock = some z) := fun z hz e => by
          rcases e with e | e
          · omega
          · have h2 := hu3 z e
            omega
        have hk07 := hk0j.old hk7 (fun z hz => hS6 z (by omega))
        have hL7 := hLj.keepS hk7 (fun z hz => hS6 z (by omega))
        have hbx7 := hbxj.keep hk7 (hS6 _ (by omega))
        have hs7 := hk7.size
        have q11 : cel H7 H.size 11 = some vp := by rw [hbx7.cel]; rfl
        have hP7 := hV.pairs.keepN hk07
        have cp := sp.cap
        have hpl := hs.pairs
        clear q10 hkr hk6 hkk7
        refine zrun ?_ ?_
        refine x_load rfl rfl (hpmt (q11)) rfl trivial ?_
        refine zrun ?_ ?_
        refine cw_loop (fun j : Nat => [(3, ptr H1.size 0), (4, .func (.func 19) #[] #[ptr H1.size 0]), (89, vp), (90, .int .i64 o.pairs.length), (91, .int .i64 j)]) (fun j H' => j ≤ o.pairs.length ∧ BdTo H7 H1.size u3 (nameOf o.kind ++ joinS (fN o 6 ++ (fB o 3 ++ (pU nVal o.val ++ fP o j)))) H') (fun j => o.pairs.length - j) 0 (by repeat (first | exact True.intro | refine ⟨rfl, ?_⟩)) ⟨by omega, u3, by rw [show pU nVal o.val ++ fP o 0 = pU nVal o.val by simp [fP]]; exact hb7, Keep.refl _ _, .inl rfl⟩ ?_
        clear hb1 hk1 hp1
        rintro j H8 ⟨hj, u4, hb1, hk1, hp1⟩
        have hu4 : ∀ g, u4.ownBlock = some g → H2.size ≤ g := fun g hg => by
          rcases hp1 with e | e
          · exact hu3 g (by rw [← e]; exact hg)
          · have := e g hg
            omega
        have hk08 := hk07.old hk1 (fun z hz => hS7 z (by omega))
        have hs8 := hk1.size
        refine zrun ?_ ?_
        refine cw_cond rfl (fun h1 => ?_) (fun h1 => ?_) <;> (try simp at h1)
        · obtain ⟨x, hx⟩ := getp (l := o.pairs) (j := j) (by omega)
          have hx1 := hs.each x (List.mem_of_getElem? hx)
          have hx2 := ho.pairs x (List.mem_of_getElem? hx)
          have hL8 := hL7.keepS hk1 (fun z hz => hS7 z (by omega))
          obtain ⟨kv, b1, b2, b3⟩ := (hV.pairs.keepN hk08).at_ j x hx
          have hS8 : ∀ z, z = H8.size → ¬ (z = H1.size ∨ u4.ownBlock = some z) := fun z hz e => by
            rcases e with e | e
            · omega
            · have := hb1.lt e
              omega
          have ocx := isSl_oneC b3.sl
          refine zrun ?_ ?_
          refine x_loads (cs := [kv, .int .u64 x.2]) rfl rfl rfl (hpmt fun o ho => by
            match o, ho with
            | 0, _ => exact b1
            | 1, _ => exact b2) rfl trivial ?_
          refine zrun ?_ ?_
          refine x_alloc rfl rfl trivial ?_
          intro H9 hn9
          refine ⟨trivial, ?_⟩
          refine zrun ?_ ?_
          refine x_stores rfl rfl rfl rfl (oc_cons ocx (oc_cons rfl oc_nil)) hn9.blk (by simp) trivial ?_
          intro Ha hBa hka hsa
          refine ⟨trivial, ?_⟩
          have hBa : Blk Ha H8.size [kv, .int .u64 x.2] := hBa
          have hkna : Keep Non H8 Ha := keep_at hn9.keep hka (Nat.le_refl _)
          have d0 : cel Ha H8.size 0 = some kv := by rw [hBa.cel]; rfl
          have d1 : cel Ha H8.size 1 = some (.int .u64 x.2) := by rw [hBa.cel]; rfl
          have hkr := Keep.refl (fun z => z = H1.size ∨ u4.ownBlock = some z) Ha
          refine zrun ?_ ?_
          refine cw_held (fun _ => Keep (fun z => z = H1.size ∨ u4.ownBlock = some z) Ha) ⟨[3, 7, 9], [(2, 0), (6, 0)]⟩ (.op 0 (.op 1 (.op 2 (.op 5 (.op 6 (.op 3 (.op 4 (.op 7 (.op 8 (.op 9 (.nil))))))))))) panicOk_body mixed (by kernel_rfl) ?_
          refine zhrun ?_ ?_
          refine x_load rfl rfl (hpmk rfl (fun _ hk => hk.cel d0 (hS8 _ rfl))) rfl (okq_load rfl rfl (by assumption)) ?_
          refine zhrun ?_ ?_
          refine x_load rfl rfl (hpmk rfl (fun _ hk => hk.cel d1 (hS8 _ rfl))) rfl (okq_load rfl rfl (by assumption)) ?_
          refine zhrun ?_ ?_
          refine x_call rfl rfl rfl ⟨rfl, rfl⟩ (law_told (b3.keepN hkna) hx1) ?_
          rintro _ Hb ⟨hkb, rfl⟩
          refine ⟨okm_keep hkb (fun _ _ h => h.elim), ?_⟩
          refine zhrun ?_ ?_
          refine x_cat (b := [58]) (by rw [hexB_length]; simp; omega) rfl rfl rfl rfl (okq_reg rfl rfl) ?_
          refine zhrun ?_ ?_
          refine x_call rfl rfl rfl ⟨rfl, rfl⟩ (law_FormatUint hx2 ((hL8.keepN hkna).keepN hkb)) ?_
          rintro _ Hc ⟨hkc, rfl⟩
          refine ⟨okm_keep hkc (fun _ _ h => h.elim), ?_⟩
          refine zhrun ?_ ?_
          have hdl := dec_le hx2
          refine x_cat (by rw [List.length_append, hexB_length]; simp; omega) rfl rfl rfl rfl (okq_reg rfl rfl) ?_
          refine zhrun ?_ ?_
          have hszP : (nameOf o.kind ++ joinS (fN o 6 ++ (fB o 3 ++ (pU nVal o.val ++ fP o j)))).length + nPair.length + (hexB x.1 ++ [58] ++ dec x.2).length ≤ 140737488355000 := by
            have h1 := said_le hs ho (parts_fP o j)
            have h3 : nPair.length = 4 := rfl
            have h4 := hexB_length x.1
            have h5 : (hexB x.1 ++ [58] ++ dec x.2).length = (hexB x.1).length + 1 + (dec x.2).length := by rw [List.length_append, List.length_append]; rfl
            omega
          have hk8c := (hkna.non_trans hkb).non_trans hkc
          refine x_callv (vs := [strV nPair, .bool true, strV (hexB x.1 ++ [58] ++ dec x.2)]) rfl rfl rfl rfl ⟨rfl, rfl⟩ (law_fieldS (hb1.keepN hk8c) hszP) ?_
          rintro _ Hd ⟨rfl, hbd⟩
          have hkk : Keep (fun z => z = H1.size ∨ u4.ownBlock = some z) Hc Hd := let ⟨_, _, k, _⟩ := hbd; k
          refine ⟨okm_keep hkk (fun _ _ h => h), ?_⟩
          refine zhrun ?_ ?_
          refine zrun ?_ ?_
          refine nw_round (j + 1) (by repeat (first | exact True.intro | refine ⟨rfl, ?_⟩)) ⟨by omega, ?_⟩ (by omega)
          have hf := BdTo.step hk1 hp1 hk8c hbd
          have e1 : (if (true : Bool) = true then 32 :: (nPair ++ 61 :: (hexB x.1 ++ [58] ++ dec x.2)) else []) = joinS [pP x] := by simp [joinS, pP]
          rw [e1, List.append_assoc, ← joinS_append, List.append_assoc, List.append_assoc, List.append_assoc, ← fP_succ hx] at hf
          exact hf
        · obtain rfl : j = o.pairs.length := by omega
          have hfin : nameOf o.kind ++ joinS (fN o 6 ++ (fB o 3 ++ (pU nVal o.val ++ fP o o.pairs.length))) = sayB o := by
            unfold sayB
            rw [parts_fP o o.pairs.length, List.drop_length]
            simp
          rw [hfin] at hb1
          refine zrun ?_ ?_
          refine x_call rfl rfl rfl trivial (law_BString H1.size hb1 (Nat.le_refl _) (fun g hg => by have := hu4 g hg; omega)) ?_
          rintro _ H9 ⟨rfl, hk9⟩
          refine ⟨trivial, ?_⟩
          refine zrun ?_ ?_
          exact cw_ret1 rfl rfl ⟨hk08.old hk9 (fun z hz e => by omega), rfl⟩
end Go.Proofs.YtbcflfkajkmkdaaDoor.X
