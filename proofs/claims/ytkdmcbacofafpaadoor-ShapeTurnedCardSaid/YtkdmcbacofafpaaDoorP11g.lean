/- Chapter 11, the program: whole ternary trees; all cells of a tree of any kind; what is told of them. -/
import Derived.Test.YtkdmcbacofafpaaDoorP11f
namespace Go.Proofs.YtkdmcbacofafpaaDoor.X
open Go Go.Proofs
set_option linter.unusedVariables false
set_option linter.unusedSimpArgs false
set_option maxRecDepth 10000
set_option maxHeartbeats 4000000

/-- as PrgO, of any length -/
def PrgL (o : Option PT) (H : Heap) (r : Value) (H' : Heap) : Prop := Keep Non H H' ∧ ∃ v n d P, r = .tuple #[.agg [v, .int .i64 n, .int .i64 d].toArray, .bool o.isSome] ∧ PoS (fun z => H.size ≤ z) H' v P ∧ ∀ x, o = some x → n = (x.next : Int) ∧ d = (x.deep : Int) ∧ P = x.P
theorem PrgO.long {o : Option PT} {H H' : Heap} {r : Value} (h : PrgO o H r H') : PrgL o H r H' := by
  obtain ⟨h1, v, n, d, P, e, h2, _, h3⟩ := h
  exact ⟨h1, v, n, d, P, e, h2, h3⟩
/-- the key without bytes -/
def emptyT (c : Cel) (b : Bool) : PT := if b then ⟨[([], c.val)], 1, 1⟩ else {}
theorem rdTs_of {l : List Cel} {c : Cel} (hc : l[0]? = some c) {b : Bool} (hb : b = true ↔ Leaf c 3 ∧ c.key = []) :
    rdTs l = if (emptyT c b).next = l.length then some (emptyT c b) else stepT (emptyT c b) (rdT (l.length + 1) l (emptyT c b).next [] (-1) 256) := by
  have hl := (List.getElem?_eq_some_iff.1 hc).1
  unfold rdTs
  rw [hc]
  simp only
  cases b with
  | true =>
    obtain ⟨h, hk⟩ := hb.1 rfl
    rw [if_pos h.kind, if_pos ⟨h.at_, h.byte, h.full, h.kids, h.count, hk, h.pairs⟩]
    by_cases h1 : l.length = 1
    · rw [if_pos h1, if_pos (show (emptyT c true).next = l.length from h1.symm)]
      rfl
    · rw [if_neg h1, if_neg (show ¬ (emptyT c true).next = l.length from fun e => h1 e.symm)]
      rfl
  | false =>
    have hn : ¬ (Leaf c 3 ∧ c.key = []) := fun e => by cases hb.2 e
    rw [if_neg (show ¬ (emptyT c false).next = l.length from fun e => by have e : 0 = l.length := e; omega)]
    by_cases h3 : c.kind = 3
    · rw [if_pos h3, if_neg (fun e => hn ⟨⟨h3, e.1, e.2.2.2.1, e.2.1, e.2.2.1, e.2.2.2.2.2.2, e.2.2.2.2.1, by rw [e.2.2.2.2.2.1]; simp⟩, e.2.2.2.2.2.1⟩)]
      show none = stepT _ (rdT (l.length + 1) l 0 [] (-1) 256)
      rw [rdT_some hc, if_neg (fun e => by have := e.kind; omega)]
      rfl
    · rw [if_neg h3]
      show rdT (l.length + 1) l 0 [] (-1) 256 = stepT {} (rdT (l.length + 1) l 0 [] (-1) 256)
      cases rdT (l.length + 1) l 0 [] (-1) 256 with
      | none => rfl
      | some x => show some x = some ⟨[] ++ x.P, x.next, max 0 x.deep⟩; simp

theorem shp_ternaries {l : List Cel} {vc : Value} {B0 : Nat} {H : Heap} (hok : CelsOk l) (hv : l ≠ [] → sb vc < B0) (hne : l ≠ []) (hC : CR B0 H vc l) (hB : B0 ≤ H.size) : Ret Tryd.prog 41 [.agg [vc].toArray] H (PrgL (rdTs l) H) := by
  have sC := hC.sl
  have hll := hok.len
  obtain ⟨R, hR⟩ : ∃ R, R = rdTs l := ⟨_, rfl⟩
  rw [← hR]
  refine ret_of Tryd.func41 rfl rfl rfl rfl ?_
  intro w0
  refine zrun ?_ ?_
  refine x_box (cs := [vc]) rfl rfl rfl trivial ?_
  intro H1 hn1
  refine ⟨trivial, ?_⟩
  refine x_alloc rfl rfl trivial ?_
  intro H2 hn2
  refine ⟨trivial, ?_⟩
  have hs1 := hn1.size
  have hs2 := hn2.size
  have hk2 := hn2.old hn1.keep
  refine zrun ?_ ?_
  refine x_build (cs := zP) rfl rfl rfl ocp_nil rfl trivial ?_
  refine x_alloc rfl rfl trivial ?_
  intro H3 hn3
  refine ⟨trivial, ?_⟩
  have hs3 := hn3.size
  refine x_stores rfl rfl rfl rfl (by simp [zP, oneC, Value.oneCell']) hn3.blk (by simp [zP]) trivial ?_
  intro H4 hB44 hk4 hs4
  refine ⟨trivial, ?_⟩
  have hk24 : Keep Non H2 H4 := keep_at hn3.keep hk4 (Nat.le_refl _)
  have hk14 := hn2.keep.non_trans hk24
  have hk04 := hk2.non_trans hk24
  have hBr4 : Blk H4 H.size [vc] := (hn1.blk : Blk H1 H.size [vc]).keep hk14 (fun h => h)
  have hBo4 : Blk H4 H1.size zP := (hn2.blk : Blk H2 H1.size zP).keep hk24 (fun h => h)
  have hB44 : Blk H4 H2.size zP := hB44
  refine zrun ?_ ?_
  refine x_loads (cs := [vc]) rfl rfl rfl (hpmt (hBr4.cels 0 1 (by simp))) rfl trivial ?_
  refine zrun ?_ ?_
  refine x_call rfl rfl rfl trivial (shp_cell (i := 0) (CR.keepN hC hk04) (by omega)) ?_
  rintro _ H5 ⟨hk5, y, c, rfl, hy5, hcd⟩
  refine ⟨trivial, ?_⟩
  have hs5 := hk5.size
  refine zrun ?_ ?_
  refine x_alloc rfl rfl trivial ?_
  intro H6 hn6
  refine ⟨trivial, ?_⟩
  have hs6 := hn6.size
  refine x_stores rfl rfl rfl rfl (CelR.oneC hy5) hn6.blk (by simp [encC]) trivial ?_
  intro H7 hBc7 hk7 hs7
  refine ⟨trivial, ?_⟩
  have hk57 : Keep Non H5 H7 := keep_at hn6.keep hk7 (Nat.le_refl _)
  have hk47 := hk5.non_trans hk57
  have hk07 := hk04.non_trans hk47
  have hy7 := hy5.keepN hk57
  have hBc7 : Blk H7 H5.size (encC y) := hBc7
  have hBr7 := hBr4.keep hk47 (fun h => h)
  have hBo7 := hBo4.keep hk47 (fun h => h)
  have hB47 := hB44.keep hk47 (fun h => h)
  have D7 := celD_of hBc7 hy7.1
  have sK := hy7.2.1.1.sl
  have hs07 := hk07.size
  refine zrunc ?_ ?_
  cases hc : l[0]? with
  | none =>
    have := List.getElem?_eq_none_iff.1 hc
    exact absurd (List.length_eq_zero_iff.1 (by omega)) hne
  | some d =>
    have hcd' := hcd d hc
    subst hcd'
    have hcm := List.mem_of_getElem? hc
    have hl1 := (List.getElem?_eq_some_iff.1 hc).1
    refine zrunc ?_ ?_
    refine cw_cut (fun e : Bool => [(1, ptr H.size 0), (2, ptr H1.size 0), (3, .bool false), (4, ptr H2.size 0), (5, ptr H5.size 0), (25, .bool e)]) (fun e H' => Keep Non H7 H' ∧ (e = true ↔ Leaf c 3 ∧ c.key = [])) ?_ ?_
    · refine zrun ?_ ?_
      refine x_loads (cs := encC y) rfl rfl rfl (hpmt (hBc7.cels 0 9 (by simp [encC]))) rfl trivial ?_
      refine zrun ?_ ?_
      refine x_call rfl rfl rfl trivial (shp_plain hy7) ?_
      rintro _ H8 ⟨hk8, e, rfl, he⟩
      refine ⟨trivial, ?_⟩
      have D8 := D7.keepN hk8
      cases e with
      | true =>
        have hLf := he.1 rfl
        refine zrun ?_ ?_
        refine x_load rfl rfl (hpmt (D8.d7)) rfl trivial ?_
        refine zrun ?_ ?_
        exact nw_meet _ (by repeat (first | exact True.intro | refine ⟨rfl, ?_⟩)) ⟨hk8, (fun e => ⟨hLf, List.length_eq_zero_iff.1 (by have := of_decide_eq_true e; omega)⟩), (fun h => decide_eq_true (by rw [h.2]; rfl))⟩
      | false =>
        refine zrun ?_ ?_
        exact nw_meet false (by repeat (first | exact True.intro | refine ⟨rfl, ?_⟩)) ⟨hk8, (fun e => by cases e), (fun h => he.2 h.1)⟩
    rintro e H8 ⟨hk8, he⟩
    have hs8 := hk8.size
    have hy8 := hy7.keepN hk8
    have hBc8 := hBc7.keep hk8 (fun h => h)
    have hBr8 := hBr7.keep hk8 (fun h => h)
    have hBo8 := hBo7.keep hk8 (fun h => h)
    have hB48 := hB47.keep hk8 (fun h => h)
    have hk08 := hk07.non_trans hk8
    rw [rdTs_of hc he] at hR
    refine zrunc ?_ ?_
    refine cw_cut (fun v : Value => [(1, ptr H.size 0), (2, ptr H1.size 0), (3, .bool false), (4, ptr H2.size 0)]) (fun v H' => Keep (· = H2.size) H8 H' ∧ Blk H' H2.size [v, .int .i64 (emptyT c e).next, .int .i64 (emptyT c e).deep] ∧ PoS (fun z => H8.size ≤ z) H' v (emptyT c e).P) ?_ ?_
    · cases e with
      | true =>
        refine zrun ?_ ?_
        refine x_loads (cs := encC y) rfl rfl rfl (hpmt (hBc8.cels 0 9 (by simp [encC]))) rfl trivial ?_
        refine zrun ?_ ?_
        refine x_call rfl rfl rfl trivial (shp_own hy8 (Bs.nil H8) (by simp)) ?_
        rintro _ H9 ⟨hk9, kk, rfl, hO9, hf9⟩
        refine ⟨trivial, ?_⟩
        have hovk := isSl_oneC hO9.sl
        refine zrun ?_ ?_
        refine x_buildSliceS1 (by rfl) rfl rfl (by omega) (by rfl) rfl trivial ?_
        intro H10 hn10
        refine ⟨trivial, ?_⟩
        have hs9 := hk9.size
        have hs10 := hn10.size
        have hk810 := hn10.old hk9
        have hlt9 : 0 < sc kk → sb kk < H9.size := fun hc => hO9.lt hc
        have hV10 : PoS (fun z => H8.size ≤ z) H10 (.slice (some ⟨H9.size, 0, none⟩) 1 1) [([], c.val)] := PoS.one (k := kk) (p := ([], c.val)) (Own.new (s := 2) (n := 1) hn10 rfl (by omega)) (fun _ => by show H8.size ≤ H9.size; omega) (hO9.keep hn10.keep (fun _ h => h)) (fun hc => ⟨hf9 hc, fun e => by have := hlt9 hc; have e : sb kk = H9.size := e; omega⟩)
        refine zrun ?_ ?_
        refine x_build (cs := [.slice (some ⟨H9.size, 0, none⟩) 1 1, .int .i64 1, .int .i64 1]) rfl rfl rfl (ocp_cons rfl (ocp_cons rfl (ocp_cons rfl ocp_nil))) rfl trivial ?_
        refine x_stores rfl rfl rfl rfl (oc_cons rfl (oc_cons rfl (oc_cons rfl oc_nil))) (hB48.keep hk810 (fun h => h)) (by simp [zP]) trivial ?_
        intro H11 hB11 hk11 hs11
        refine ⟨trivial, ?_⟩
        refine zrun ?_ ?_
        exact nw_meet (.slice (some ⟨H9.size, 0, none⟩) 1 1) (by repeat (first | exact True.intro | refine ⟨rfl, ?_⟩)) ⟨(hk810.mono (S := Non) (fun _ _ h => h.elim)).step hk11 (fun z hz e => e), hB11, hV10.keep hk11 (fun z hz (e : z = _) => by omega)⟩
      | false =>
        refine zrun ?_ ?_
        exact nw_meet (.slice none 0 0) (by repeat (first | exact True.intro | refine ⟨rfl, ?_⟩)) ⟨Keep.refl _ _, hB48, PoS.nil _ _⟩
    rintro v H9 ⟨hk9, hB49, hV9⟩
    have hs9 := hk9.size
    generalize hem : emptyT c e = r at hR hB49 hV9 ⊢
    have hr1 : r.next ≤ 1 ∧ r.deep ≤ 1 ∧ r.P.length ≤ 1 := by
      rw [← hem]; unfold emptyT; cases e <;> simp
    have hk09 : Keep Non H H9 := hk08.step hk9 (fun z hz e => by have e : z = H2.size := e; omega)
    have hBr9 := hBr8.keep hk9 (fun (e : _ = _) => by omega)
    have hBo9 := hBo8.keep hk9 (fun (e : _ = _) => by omega)
    have hov := isSl_oneC hV9.ps.sl
    have n0 : cel H9 H2.size 0 = some v := by rw [hB49.cel]; rfl
    have n1 : cel H9 H2.size 1 = some (.int .i64 r.next) := by rw [hB49.cel]; rfl
    have n2 : cel H9 H2.size 2 = some (.int .i64 r.deep) := by rw [hB49.cel]; rfl
    have r0 : cel H9 H.size 0 = some vc := by rw [hBr9.cel]; rfl
    have hs09 := hk09.size
    refine zrun ?_ ?_
    refine x_load rfl rfl (hpmt (n1)) rfl trivial ?_
    refine zrun ?_ ?_
    refine x_load rfl rfl (hpmt (r0)) rfl trivial ?_
    refine zrun ?_ ?_
    refine cw_cond rfl (fun hnx => ?_) (fun hnx => ?_) <;> (try simp at hnx)
    · have hz : R = some r := by rw [hR, if_pos (by omega)]
      refine zrun ?_ ?_
      refine x_loads (cs := [v, .int .i64 r.next, .int .i64 r.deep]) rfl rfl rfl (hpmt (hB49.cels 0 3 (by simp))) rfl trivial ?_
      refine x_stores rfl rfl rfl rfl (oc_cons hov (oc_cons rfl (oc_cons rfl oc_nil))) hBo9 (by simp [zP]) trivial ?_
      intro H10 hB10 hk10 hs10
      refine ⟨trivial, ?_⟩
      refine zrun ?_ ?_
      refine cw_retc2 rfl rfl rfl rfl (hB10.cels 0 3 (by simp [putL, zP])) ⟨hk09.step hk10 (fun z hz (e : z = _) => by omega), v, r.next, r.deep, r.P, by rw [hz]; rfl, (hV9.keep hk10 (fun z hz (e : z = _) => by omega)).mono (fun z hz _ => by omega), fun x hx => ?_⟩
      rw [hz] at hx
      injection hx with hx
      subst hx
      exact ⟨rfl, rfl, rfl⟩
    · rw [if_neg (by omega)] at hR
      refine zrun ?_ ?_
      refine x_loads (cs := [vc]) rfl rfl rfl (hpmt (hBr9.cels 0 1 (by simp))) rfl trivial ?_
      refine zrun ?_ ?_
      refine x_load rfl rfl (hpmt (n1)) rfl trivial ?_
      refine zrun ?_ ?_
      refine x_call rfl rfl rfl trivial (shp_ternary hok hv (l.length + 1) (i := r.next) (way := []) (vw := .slice none 0 0) (lo := -1) (hi := 256) (by omega) (by omega) (by omega) (CR.keepN hC hk09) (by omega) (Own.nil 1 H9) (fun h => by simp [sc] at h)) ?_
      rintro _ H10 ⟨hk10, _, vx, nx, dx, Px, rfl, hVx, hPxl, hxx⟩
      refine ⟨trivial, ?_⟩
      have hk10 : Keep Non H9 H10 := hk10.mono (fun z hz e => by have := e.2; simp [sc] at this)
      generalize rdT (l.length + 1) l r.next [] (-1) 256 = ox at hR hxx ⊢
      have hvx := isSl_oneC hVx.ps.sl
      have hs10 := hk10.size
      refine zrun ?_ ?_
      refine x_alloc rfl rfl trivial ?_
      intro H11 hn11
      refine ⟨trivial, ?_⟩
      have hs11 := hn11.size
      refine x_stores rfl rfl rfl rfl (oc_cons hvx (oc_cons rfl (oc_cons rfl oc_nil))) hn11.blk (by simp) trivial ?_
      intro H12 hB7 hk12 hs12
      refine ⟨trivial, ?_⟩
      have hk1012 : Keep Non H10 H12 := keep_at hn11.keep hk12 (Nat.le_refl _)
      have hk912 := hk10.non_trans hk1012
      have hB7 : Blk H12 H10.size [vx, .int .i64 nx, .int .i64 dx] := hB7
      have hBo12 := hBo9.keep hk912 (fun h => h)
      have hV12 : PoS (fun z => H8.size ≤ z ∧ z < H9.size) H12 v r.P := (hV9.mono (fun z hz hl => ⟨hz, hl⟩)).keepN hk912
      have hVx12 : PoS (fun z => H9.size ≤ z ∧ z < H10.size) H12 vx Px := (hVx.mono (fun z hz hl => ⟨hz, hl⟩)).keepN hk1012
      obtain ⟨q, hq, ho, hd⟩ := id hV12.row
      obtain ⟨qx, hqx, hox, hdx⟩ := id hVx12.row
      have hf := hV12.fresh
      have sVx := hox.sl
      have m0 : cel H12 H2.size 0 = some v := hk912.cel n0 (fun h => h)
      have m2 : cel H12 H2.size 2 = some (.int .i64 r.deep) := hk912.cel n2 (fun h => h)
      have x0 : cel H12 H10.size 0 = some vx := by rw [hB7.cel]; rfl
      have x1 : cel H12 H10.size 1 = some (.int .i64 nx) := by rw [hB7.cel]; rfl
      have x2 : cel H12 H10.size 2 = some (.int .i64 dx) := by rw [hB7.cel]; rfl
      have hkr := Keep.refl (fun z => (z = sb v ∧ 0 < sc v) ∨ z = H1.size) H12
      have o2 : ¬ ((H2.size = sb v ∧ 0 < sc v) ∨ H2.size = H1.size) := fun e => e.elim (fun e => by have := (hf e.2).1; omega) (fun e => by omega)
      have o7 : ¬ ((H10.size = sb v ∧ 0 < sc v) ∨ H10.size = H1.size) := fun e => e.elim (fun e => by have := (hf e.2).2; omega) (fun e => by omega)
      refine zrunc ?_ ?_
      refine cw_held (fun _ => Keep (fun z => (z = sb v ∧ 0 < sc v) ∨ z = H1.size) H12) ⟨[4, 14], [(1, 0), (3, 0), (6, 0), (8, 0), (10, 0)]⟩ (.op 0 (.op 1 (.op 2 (.op 3 (.op 5 (.op 6 (.op 7 (.op 8 (.op 9 (.op 10 (.op 11 (.op 13 (.op 4 (.op 12 (.op 14 (.op 15 (.nil))))))))))))))))) panicOk_body mixed (by kernel_rfl) ?_
      refine zhrun ?_ ?_
      refine x_load rfl rfl (hpmk rfl (fun _ hk => hk.cel m0 o2)) rfl (okq_load rfl rfl (by assumption)) ?_
      refine zhrun ?_ ?_
      refine x_load rfl rfl (hpmk rfl (fun _ hk => hk.cel x0 o7)) rfl (okq_load rfl rfl (by assumption)) ?_
      refine zhrun ?_ ?_
      refine x_load rfl rfl (hpmk rfl (fun _ hk => hk.cel x1 o7)) rfl (okq_load rfl rfl (by assumption)) ?_
      refine zhrun ?_ ?_
      refine x_load rfl rfl (hpmk rfl (fun _ hk => hk.cel m2 o2)) rfl (okq_load rfl rfl (by assumption)) ?_
      refine zhrun ?_ ?_
      refine x_load rfl rfl (hpmk rfl (fun _ hk => hk.cel x2 o7)) rfl (okq_load rfl rfl (by assumption)) ?_
      refine zhrun ?_ ?_
      refine x_max rfl rfl rfl rfl (okq_reg rfl rfl) ?_
      refine zhrun ?_ ?_
      refine x_append (by rfl) (by rfl) (by rfl) rfl rfl rfl ho sVx (by rw [pcs_length, hqx.len]) hox.cels (pcs_oneC hqx (fun v b h => isSl_oneC h.1.sl)) (by omega) rfl ⟨rfl, rfl⟩ ?_
      intro v13 H13 hap
      refine ⟨okm_keep hap.keep (fun z hz e => .inl ⟨e.1, by have := e.2; omega⟩), ?_⟩
      have hs13 := hap.keep.size
      have hV13 : PoS (fun z => H8.size ≤ z) H13 v13 (r.P ++ Px) := PoS.app (S1 := fun z => H8.size ≤ z ∧ z < H9.size) (S2 := fun z => H9.size ≤ z ∧ z < H10.size) hq ho hd hf (hqx.mono fun _ _ hb => ⟨hb.1, fun hc => (hb.2 hc).1⟩) hdx (fun z h1 h2 => by omega) (fun z h => h.1) (fun z h => by have := h.1; omega) (by show H8.size ≤ H12.size; omega) hap
      have hov13 := isSl_oneC hV13.ps.sl
      have hk013 : Keep Non H H13 := (hk09.non_trans hk912).old hap.keep (fun z hz e => by have := (hf (by have := e.2; omega)).1; have := e.1; omega)
      have hBo13 := hBo12.keep hap.keep (fun e => by have := (hf (by have := e.2; omega)).1; have := e.1; omega)
      refine zhrun ?_ ?_
      refine x_build (cs := [v13, .int .i64 nx, .int .i64 (max (r.deep : Int) dx)]) rfl rfl rfl (ocp_cons hov13 (ocp_cons rfl (ocp_cons rfl ocp_nil))) rfl (okq_reg rfl rfl) ?_
      refine zhrun ?_ ?_
      refine x_stores rfl rfl rfl rfl (oc_cons hov13 (oc_cons rfl (oc_cons rfl oc_nil))) hBo13 (by simp [zP]) ⟨rfl, rfl⟩ ?_
      intro H14 hB14 hk14 hs14
      refine ⟨okm_keep hk14 (fun _ _ e => .inr e), ?_⟩
      refine zhrun ?_ ?_
      refine zrun ?_ ?_
      refine cw_retc2 rfl rfl rfl rfl (hB14.cels 0 3 (by simp [putL, zP])) ⟨hk013.step hk14 (fun z hz (e : z = _) => by omega), v13, nx, max (r.deep : Int) dx, r.P ++ Px, ?_, (hV13.keep hk14 (fun z hz (e : z = _) => by omega)).mono (fun z hz _ => by omega), fun x hx => ?_⟩
      · rw [hR]; cases ox <;> rfl
      · rw [hR] at hx
        cases ox with
        | none => cases hx
        | some w =>
          obtain ⟨e1, e2, e3⟩ := hxx w rfl
          subst e1 e2 e3
          injection hx with hx
          subst hx
          exact ⟨rfl, by show max _ _ = ((max r.deep w.deep : Nat) : Int); omega, rfl⟩

/-- what is told of all cells -/
def PrgA (o : Option PT) (H : Heap) (r : Value) (H' : Heap) : Prop := Keep Non H H' ∧ ∃ v, r = .tuple #[.agg [v, .int .i64 (o.getD {}).next, .int .i64 (o.getD {}).deep].toArray, .bool o.isSome] ∧ PoS (fun z => H.size ≤ z) H' v (o.getD {}).P

theorem shp_read {tag : Int} {l : List Cel} {vc : Value} {B0 : Nat} {H : Heap} (hok : CelsOk l) (hv : l ≠ [] → sb vc < B0) (h2 : 2 ≤ B0) (hkd : ∀ c ∈ l, -9223372036854775808 ≤ c.kind ∧ c.kind ≤ 9223372036854775807) (hC : CR B0 H vc l) (hB : B0 ≤ H.size) (hL : Laid H) : Ret Tryd.prog 27 [.int .i64 tag, vc] H (PrgA (rdAll tag l) H) := by
  have sC := hC.sl
  have cC := sC.cap
  have hll := hok.len
  obtain ⟨R, hR⟩ : ∃ R, R = rdAll tag l := ⟨_, rfl⟩
  rw [← hR]
  refine ret_of Tryd.func27 rfl rfl rfl rfl ?_
  intro w0
  refine zrun ?_ ?_
  refine x_alloc rfl rfl trivial ?_
  intro H1 hn1
  refine ⟨trivial, ?_⟩
  have hs1 := hn1.size
  have hk1 := hn1.keep
  have hB4 : Blk H1 H.size zP := hn1.blk
  refine zrunc ?_ ?_
  refine cw_cut (fun e : Bool => [(0, .int .i64 tag), (1, vc), (4, ptr H.size 0), (5, .bool false), (14, .bool e)]) (fun e H' => H1 = H' ∧ e = decide (tag < 1 ∨ 4 < tag)) ?_ ?_
  · refine zrun ?_ ?_
    refine x_split 11 rfl (fun g1 => ?_) (fun g1 => ?_) <;> (try simp at g1)
    · refine zrun ?_ ?_
      exact nw_meet true (by repeat (first | exact True.intro | refine ⟨rfl, ?_⟩)) ⟨rfl, (decide_eq_true (.inl g1)).symm⟩
    · refine zrun ?_ ?_
      exact nw_meet _ (by repeat (first | exact True.intro | refine ⟨rfl, ?_⟩)) ⟨rfl, decide_eq_decide.2 ⟨fun h => .inr h, fun h => by omega⟩⟩
  rintro e _ ⟨rfl, rfl⟩
  refine zrun ?_ ?_
  refine cw_cond rfl (fun g1 => ?_) (fun g1 => ?_) <;> (try simp at g1)
  · have hz : R = none := by rw [hR]; unfold rdAll; rw [if_pos g1]
    refine zrun ?_ ?_
    refine x_build (cs := zP) rfl rfl rfl ocp_nil rfl trivial ?_
    refine x_stores rfl rfl rfl rfl (by simp [zP, oneC, Value.oneCell']) hB4 (by simp [zP]) trivial ?_
    intro Hz hBz hkz hsz
    refine ⟨trivial, ?_⟩
    refine zrun ?_ ?_
    exact cw_retc2 rfl rfl rfl rfl (hBz.cels 0 3 (by simp [putL, zP])) ⟨keep_at hk1 hkz (Nat.le_refl _), .slice none 0 0, by rw [hz]; rfl, by rw [hz]; exact PoS.nil _ _⟩
  · have hg1 : ¬ (tag < 1 ∨ 4 < tag) := by omega
    refine zrun ?_ ?_
    refine cw_cond rfl (fun h0 => ?_) (fun h0 => ?_) <;> (try simp at h0)
    · have hl0 : l = [] := by first | exact h0 | exact List.length_eq_zero_iff.1 (by omega)
      have hz : R = some {} := by rw [hR]; unfold rdAll; rw [if_neg hg1, if_pos hl0]
      refine zrun ?_ ?_
      refine x_build (cs := zP) rfl rfl rfl ocp_nil rfl trivial ?_
      refine x_stores rfl rfl rfl rfl (by simp [zP, oneC, Value.oneCell']) hB4 (by simp [zP]) trivial ?_
      intro Hz hBz hkz hsz
      refine ⟨trivial, ?_⟩
      refine zrun ?_ ?_
      exact cw_retc2 rfl rfl rfl rfl (hBz.cels 0 3 (by simp [putL, zP])) ⟨keep_at hk1 hkz (Nat.le_refl _), .slice none 0 0, by rw [hz]; rfl, by rw [hz]; exact PoS.nil _ _⟩
    · have hl0 : l ≠ [] := fun e => by rw [e] at h0; simp at h0
      rw [rdAll_in hg1 hl0] at hR
      obtain ⟨o, ho⟩ : ∃ o, o = rdIn tag l := ⟨_, rfl⟩
      rw [← ho] at hR
      have hlpos : 0 < l.length := List.length_pos_iff.2 hl0
      obtain ⟨c0, hc0⟩ : ∃ c0, l[0]? = some c0 := ⟨_, List.getElem?_eq_getElem (List.length_pos_iff.2 hl0)⟩
      obtain ⟨y0, hy0, hcels0⟩ := Rd.cels hC encC_len hc0
      refine zrun ?_ ?_
      refine x_build (cs := [vc]) rfl rfl rfl (ocp_cons (isSl_oneC sC) ocp_nil) rfl trivial ?_
      refine x_alloc rfl rfl trivial ?_
      intro H2 hn2
      refine ⟨trivial, ?_⟩
      have hs2 := hn2.size
      refine x_stores rfl rfl rfl rfl (oc_cons (isSl_oneC sC) oc_nil) hn2.blk (by simp) trivial ?_
      intro H3 hB6 hk3 hs3
      refine ⟨trivial, ?_⟩
      have hB6 : Blk H3 H1.size [vc] := hB6
      refine zrun ?_ ?_
      refine x_build (cs := zP) rfl rfl rfl ocp_nil rfl trivial ?_
      refine x_alloc rfl rfl trivial ?_
      intro H4 hn4
      refine ⟨trivial, ?_⟩
      have hs4 := hn4.size
      refine x_stores rfl rfl rfl rfl (by simp [zP, oneC, Value.oneCell']) hn4.blk (by simp [zP]) trivial ?_
      intro H5 hB75 hk5 hs5
      refine ⟨trivial, ?_⟩
      have hB75 : Blk H5 H3.size zP := hB75
      have hk13 : Keep Non H1 H3 := keep_at hn2.keep hk3 (Nat.le_refl _)
      have hk35 : Keep Non H3 H5 := keep_at hn4.keep hk5 (Nat.le_refl _)
      have hk15 := hk13.non_trans hk35
      have hk05 := hk1.non_trans hk15
      have hB45 := hB4.keep hk15 (fun h => h)
      have hB65 := hB6.keep hk35 (fun h => h)
      have hs05 := hk05.size
      have hC5 := CR.keepN hC hk05
      have hL5 := hL.keepN hk05
      refine zrun ?_ ?_
      refine cw_cut (fun ok : Bool => [(1, vc), (4, ptr H.size 0), (5, .bool false), (7, ptr H3.size 0), (8, .bool ok)]) (fun ok H' => Keep Non H H' ∧ Blk H' H.size zP ∧ ok = o.isSome ∧ ∃ v n d P, Blk H' H3.size [v, .int .i64 n, .int .i64 d] ∧ PoS (fun z => H5.size ≤ z) H' v P ∧ ∀ x, o = some x → n = (x.next : Int) ∧ d = (x.deep : Int) ∧ P = x.P) ?_ ?_
      · refine cw_cond rfl (fun t1 => ?_) (fun t1 => ?_) <;> (try simp at t1)
        · have he : o = rdC (l.length + 1) l 0 (-1) := by rw [ho]; unfold rdIn; rw [if_pos t1]
          refine zrun ?_ ?_
          refine x_loads (cs := [vc]) rfl rfl rfl (hpmt (hB65.cels 0 1 (by simp))) rfl trivial ?_
          refine zrun ?_ ?_
          refine x_call rfl rfl rfl trivial (shp_crit hok (l.length + 1) (i := 0) (above := -1) (by omega) (by omega) hC5 (by omega) (by omega)) ?_
          rintro _ H6 hr
          rw [← he] at hr
          have hr := hr.long
          obtain ⟨hk6, v, n, d, P, rfl, hV, hx⟩ := hr
          refine ⟨trivial, ?_⟩
          have hov := isSl_oneC hV.ps.sl
          have hB76 := hB75.keep hk6 (fun h => h)
          have hB46 := hB45.keep hk6 (fun h => h)
          have hs6 := hk6.size
          refine zrun ?_ ?_
          refine x_stores rfl rfl rfl rfl (oc_cons hov (oc_cons rfl (oc_cons rfl oc_nil))) hB76 (by simp [putL, zP]) trivial ?_
          intro H7 hB77 hk7 hs7
          refine ⟨trivial, ?_⟩
          refine zrun ?_ ?_
          exact nw_meet o.isSome (by repeat (first | exact True.intro | refine ⟨rfl, ?_⟩)) ⟨(hk05.non_trans hk6).step hk7 (fun z hz (e : z = _) => by omega), hB46.keep hk7 (fun (e : _ = _) => by omega), rfl, v, n, d, P, hB77, hV.keep hk7 (fun z hz (e : z = _) => by omega), hx⟩
        · refine zrun ?_ ?_
          refine cw_cond rfl (fun t2 => ?_) (fun t2 => ?_) <;> (try simp at t2)
          · have he : o = rdTs l := by rw [ho]; unfold rdIn; rw [if_neg t1, if_pos t2]
            refine zrun ?_ ?_
            refine x_loads (cs := [vc]) rfl rfl rfl (hpmt (hB65.cels 0 1 (by simp))) rfl trivial ?_
            refine zrun ?_ ?_
            refine x_call rfl rfl rfl trivial (shp_ternaries hok hv hl0 hC5 (by omega)) ?_
            rintro _ H6 hr
            rw [← he] at hr
            obtain ⟨hk6, v, n, d, P, rfl, hV, hx⟩ := hr
            refine ⟨trivial, ?_⟩
            have hov := isSl_oneC hV.ps.sl
            have hB76 := hB75.keep hk6 (fun h => h)
            have hB46 := hB45.keep hk6 (fun h => h)
            have hs6 := hk6.size
            refine zrun ?_ ?_
            refine x_stores rfl rfl rfl rfl (oc_cons hov (oc_cons rfl (oc_cons rfl oc_nil))) hB76 (by simp [putL, zP]) trivial ?_
            intro H7 hB77 hk7 hs7
            refine ⟨trivial, ?_⟩
            refine zrun ?_ ?_
            exact nw_meet o.isSome (by repeat (first | exact True.intro | refine ⟨rfl, ?_⟩)) ⟨(hk05.non_trans hk6).step hk7 (fun z hz (e : z = _) => by omega), hB46.keep hk7 (fun (e : _ = _) => by omega), rfl, v, n, d, P, hB77, hV.keep hk7 (fun z hz (e : z = _) => by omega), hx⟩
          · refine zrun ?_ ?_
            refine cw_cond rfl (fun t3 => ?_) (fun t3 => ?_) <;> (try simp at t3)
            · have he : o = rdR (l.length + 1) l 0 [] := by rw [ho]; unfold rdIn; rw [if_neg t1, if_neg t2, if_pos t3]
              refine zrun ?_ ?_
              refine x_loads (cs := [vc]) rfl rfl rfl (hpmt (hB65.cels 0 1 (by simp))) rfl trivial ?_
              refine zrun ?_ ?_
              refine x_call rfl rfl rfl trivial (shp_radix hok hv h2 hkd (l.length + 1) (i := 0) (by omega) (by omega) (by omega) hC5 (by omega) hL5) ?_
              rintro _ H6 hr
              rw [← he] at hr
              have hr := hr.long
              obtain ⟨hk6, v, n, d, P, rfl, hV, hx⟩ := hr
              refine ⟨trivial, ?_⟩
              have hov := isSl_oneC hV.ps.sl
              have hB76 := hB75.keep hk6 (fun h => h)
              have hB46 := hB45.keep hk6 (fun h => h)
              have hs6 := hk6.size
              refine zrun ?_ ?_
              refine x_stores rfl rfl rfl rfl (oc_cons hov (oc_cons rfl (oc_cons rfl oc_nil))) hB76 (by simp [putL, zP]) trivial ?_
              intro H7 hB77 hk7 hs7
              refine ⟨trivial, ?_⟩
              refine zrun ?_ ?_
              exact nw_meet o.isSome (by repeat (first | exact True.intro | refine ⟨rfl, ?_⟩)) ⟨(hk05.non_trans hk6).step hk7 (fun z hz (e : z = _) => by omega), hB46.keep hk7 (fun (e : _ = _) => by omega), rfl, v, n, d, P, hB77, hV.keep hk7 (fun z hz (e : z = _) => by omega), hx⟩
            · have t4 : tag = 4 := by omega
              have he : o = rdB (l.length + 1) l 0 [] := by rw [ho]; unfold rdIn; rw [if_neg t1, if_neg t2, if_neg t3]
              subst t4
              refine zrun ?_ ?_
              refine x_loads (cs := [vc]) rfl rfl rfl (hpmt (hB65.cels 0 1 (by simp))) rfl trivial ?_
              refine zrun ?_ ?_
              refine x_call rfl rfl rfl trivial (shp_burst hok hv (l.length + 1) (i := 0) (by omega) (by omega) (by omega) hC5 (by omega)) ?_
              rintro _ H6 hr
              have hr := hr.long
              obtain ⟨hk6, v, n, d, P, rfl, hV, hx⟩ := hr
              refine ⟨trivial, ?_⟩
              have hov := isSl_oneC hV.ps.sl
              have hB76 := hB75.keep hk6 (fun h => h)
              have hB46 := hB45.keep hk6 (fun h => h)
              have hs6 := hk6.size
              have e0 : o = if c0.key = [] then rdBk (l.length + 1) l 0 else none := by
                rw [he, rdBk_some hc0]
                by_cases hk0 : c0.key = []
                · rw [if_pos hk0, hk0]
                · rw [if_neg hk0]
                  unfold rdB
                  rw [if_neg]
                  intro hh
                  obtain ⟨c', h1, h2⟩ := readB_key hh
                  rw [hc0] at h1
                  injection h1 with h1
                  rw [← h1] at h2
                  exact hk0 h2
              generalize rdBk (l.length + 1) l 0 = ob at hx e0 ⊢
              refine zrun ?_ ?_
              refine x_stores rfl rfl rfl rfl (oc_cons hov (oc_cons rfl (oc_cons rfl oc_nil))) hB76 (by simp [putL, zP]) trivial ?_
              intro H7 hB77 hk7 hs7
              refine ⟨trivial, ?_⟩
              have hk07 : Keep Non H H7 := (hk05.non_trans hk6).step hk7 (fun z hz (e : z = _) => by omega)
              obtain ⟨y7, hy7, hcel7⟩ := Rd.cel (CR.keepN hC hk07) encC_len hc0
              have sK7 := hy7.2.1.1.sl
              have c7 : cel H7 (sb vc) (so vc + 0 * 9 + 7) = some y7.2.1 := by rw [hcel7 7 (by omega)]; rfl
              refine zrun ?_ ?_
              cases ob with
              | none =>
                have hz : o = none := by rw [e0]; split <;> rfl
                refine zrun ?_ ?_
                exact nw_meet false (by repeat (first | exact True.intro | refine ⟨rfl, ?_⟩)) ⟨hk07, hB46.keep hk7 (fun (e : _ = _) => by omega), by rw [hz]; rfl, v, n, d, P, hB77, hV.keep hk7 (fun z hz (e : z = _) => by omega), fun x hx' => by rw [hz] at hx'; cases hx'⟩
              | some w =>
                refine zrun ?_ ?_
                refine x_load rfl rfl (hpmt (c7)) rfl trivial ?_
                refine zrun ?_ ?_
                refine nw_meet _ (by repeat (first | exact True.intro | refine ⟨rfl, ?_⟩)) ⟨hk07, hB46.keep hk7 (fun (e : _ = _) => by omega), ?_, v, n, d, P, hB77, hV.keep hk7 (fun z hz (e : z = _) => by omega), fun x hx' => ?_⟩
                · rw [e0]
                  by_cases hk0 : c0.key = []
                  · rw [if_pos hk0, hk0]; rfl
                  · rw [if_neg hk0]
                    have : c0.key.length ≠ 0 := fun e => hk0 (List.length_eq_zero_iff.1 e)
                    simp; omega
                · rw [e0] at hx'
                  split at hx'
                  · exact hx x hx'
                  · cases hx'
      rintro ok H7 ⟨hk07, hB47, rfl, v, n, d, P, hB77, hV7, hx⟩
      have hov := isSl_oneC hV7.ps.sl
      have f1 : cel H7 H3.size 1 = some (.int .i64 n) := by rw [hB77.cel]; rfl
      refine zrun ?_ ?_
      cases hoc : o with
      | none =>
        have hz : R = none := by rw [hR, hoc]
        refine zrun ?_ ?_
        refine x_build (cs := zP) rfl rfl rfl ocp_nil rfl trivial ?_
        refine x_stores rfl rfl rfl rfl (by simp [zP, oneC, Value.oneCell']) hB47 (by simp [zP]) trivial ?_
        intro Hz hBz hkz hsz
        refine ⟨trivial, ?_⟩
        refine zrun ?_ ?_
        exact cw_retc2 rfl rfl rfl rfl (hBz.cels 0 3 (by simp [putL, zP])) ⟨keep_at hk07 hkz (Nat.le_refl _), .slice none 0 0, by rw [hz]; rfl, by rw [hz]; exact PoS.nil _ _⟩
      | some r =>
        obtain ⟨w1, w2, w3⟩ := hx r hoc
        subst w1 w2 w3
        have hRr : R = if r.next = l.length then some r else none := by rw [hR, hoc]
        refine zrun ?_ ?_
        refine x_load rfl rfl (hpmt (f1)) rfl trivial ?_
        refine zrun ?_ ?_
        refine cw_cond rfl (fun hnx => ?_) (fun hnx => ?_) <;> (try simp at hnx)
        · have hz : R = none := by rw [hRr, if_neg (fun e => by omega)]
          refine zrun ?_ ?_
          refine x_build (cs := zP) rfl rfl rfl ocp_nil rfl trivial ?_
          refine x_stores rfl rfl rfl rfl (by simp [zP, oneC, Value.oneCell']) hB47 (by simp [zP]) trivial ?_
          intro Hz hBz hkz hsz
          refine ⟨trivial, ?_⟩
          refine zrun ?_ ?_
          exact cw_retc2 rfl rfl rfl rfl (hBz.cels 0 3 (by simp [putL, zP])) ⟨keep_at hk07 hkz (Nat.le_refl _), .slice none 0 0, by rw [hz]; rfl, by rw [hz]; exact PoS.nil _ _⟩
        · have hz : R = some r := by rw [hRr, if_pos (by omega)]
          refine zrun ?_ ?_
          refine x_loads (cs := [v, .int .i64 r.next, .int .i64 r.deep]) rfl rfl rfl (hpmt (hB77.cels 0 3 (by simp))) rfl trivial ?_
          refine x_stores rfl rfl rfl rfl (oc_cons hov (oc_cons rfl (oc_cons rfl oc_nil))) hB47 (by simp [zP]) trivial ?_
          intro H8 hB8 hk8 hs8
          refine ⟨trivial, ?_⟩
          refine zrun ?_ ?_
          exact cw_retc2 rfl rfl rfl rfl (hB8.cels 0 3 (by simp [putL, zP])) ⟨keep_at hk07 hk8 (Nat.le_refl _), v, by rw [hz]; rfl, by rw [hz]; exact (hV7.keep hk8 (fun z hz (e : z = _) => by omega)).mono (fun z hz _ => by omega)⟩

section told
variable {tag : Int} {l : List Cel} {vc : Value} {B0 : Nat} {H : Heap}
theorem shp_Sound (hok : CelsOk l) (hv : l ≠ [] → sb vc < B0) (h2 : 2 ≤ B0) (hkd : ∀ c ∈ l, -9223372036854775808 ≤ c.kind ∧ c.kind ≤ 9223372036854775807) (hC : CR B0 H vc l) (hB : B0 ≤ H.size) (hL : Laid H) : Ret Tryd.prog 15 [.int .i64 tag, vc] H (fun r H' => Keep Non H H' ∧ r = .bool (rdAll tag l).isSome) := by
  refine ret_of Tryd.func15 rfl rfl rfl rfl ?_
  intro w0
  refine zrun ?_ ?_
  refine x_call rfl rfl rfl trivial (shp_read hok hv h2 hkd hC hB hL) ?_
  rintro _ H1 ⟨hk1, v, rfl, hV⟩
  refine ⟨trivial, ?_⟩
  have hov := isSl_oneC hV.ps.sl
  refine zrun ?_ ?_
  refine x_alloc rfl rfl trivial ?_
  intro H2 hn2
  refine ⟨trivial, ?_⟩
  refine x_stores rfl rfl rfl rfl (oc_cons hov (oc_cons rfl (oc_cons rfl oc_nil))) hn2.blk (by simp) trivial ?_
  intro H3 hB3 hk3 hs3
  refine ⟨trivial, ?_⟩
  refine zrun ?_ ?_
  exact cw_ret1 rfl rfl ⟨hk1.non_trans (keep_at hn2.keep hk3 (Nat.le_refl _)), rfl⟩
theorem shp_Pairs (hok : CelsOk l) (hv : l ≠ [] → sb vc < B0) (h2 : 2 ≤ B0) (hkd : ∀ c ∈ l, -9223372036854775808 ≤ c.kind ∧ c.kind ≤ 9223372036854775807) (hC : CR B0 H vc l) (hB : B0 ≤ H.size) (hL : Laid H) : Ret Tryd.prog 17 [.int .i64 tag, vc] H (fun r H' => Keep Non H H' ∧ PoS (fun z => H.size ≤ z) H' r ((rdAll tag l).getD {}).P) := by
  refine ret_of Tryd.func17 rfl rfl rfl rfl ?_
  intro w0
  refine zrun ?_ ?_
  refine x_call rfl rfl rfl trivial (shp_read hok hv h2 hkd hC hB hL) ?_
  rintro _ H1 ⟨hk1, v, rfl, hV⟩
  refine ⟨trivial, ?_⟩
  have hov := isSl_oneC hV.ps.sl
  refine zrun ?_ ?_
  refine x_alloc rfl rfl trivial ?_
  intro H2 hn2
  refine ⟨trivial, ?_⟩
  refine x_stores rfl rfl rfl rfl (oc_cons hov (oc_cons rfl (oc_cons rfl oc_nil))) hn2.blk (by simp) trivial ?_
  intro H3 hB3 hk3 hs3
  refine ⟨trivial, ?_⟩
  have a0 : cel H3 H1.size 0 = some v := by rw [hB3.cel]; rfl
  have hk13 : Keep Non H1 H3 := keep_at hn2.keep hk3 (Nat.le_refl _)
  refine zrun ?_ ?_
  refine x_load rfl rfl (hpmt (a0)) rfl trivial ?_
  refine zrun ?_ ?_
  exact cw_ret1 rfl rfl ⟨hk1.non_trans hk13, hV.keepN hk13⟩
theorem shp_Deep (hok : CelsOk l) (hv : l ≠ [] → sb vc < B0) (h2 : 2 ≤ B0) (hkd : ∀ c ∈ l, -9223372036854775808 ≤ c.kind ∧ c.kind ≤ 9223372036854775807) (hC : CR B0 H vc l) (hB : B0 ≤ H.size) (hL : Laid H) : Ret Tryd.prog 18 [.int .i64 tag, vc] H (fun r H' => Keep Non H H' ∧ r = .int .i64 ((rdAll tag l).getD {}).deep) := by
  refine ret_of Tryd.func18 rfl rfl rfl rfl ?_
  intro w0
  refine zrun ?_ ?_
  refine x_call rfl rfl rfl trivial (shp_read hok hv h2 hkd hC hB hL) ?_
  rintro _ H1 ⟨hk1, v, rfl, hV⟩
  refine ⟨trivial, ?_⟩
  have hov := isSl_oneC hV.ps.sl
  refine zrun ?_ ?_
  refine x_alloc rfl rfl trivial ?_
  intro H2 hn2
  refine ⟨trivial, ?_⟩
  refine x_stores rfl rfl rfl rfl (oc_cons hov (oc_cons rfl (oc_cons rfl oc_nil))) hn2.blk (by simp) trivial ?_
  intro H3 hB3 hk3 hs3
  refine ⟨trivial, ?_⟩
  have a2 : cel H3 H1.size 2 = some (.int .i64 ((rdAll tag l).getD {}).deep) := by rw [hB3.cel]; rfl
  refine zrun ?_ ?_
  refine x_load rfl rfl (hpmt (a2)) rfl trivial ?_
  refine zrun ?_ ?_
  exact cw_ret1 rfl rfl ⟨hk1.non_trans (keep_at hn2.keep hk3 (Nat.le_refl _)), rfl⟩
end told
end Go.Proofs.YtkdmcbacofafpaaDoor.X
