/- Chapter 11, the program: one cell, a leaf, a pair of the call's own. -/
import Derived.Test.YtkdmcbacofafpaaDoorR11e
namespace Go.Proofs.YtkdmcbacofafpaaDoor.X
open Go Go.Proofs
set_option linter.unusedVariables false
set_option linter.unusedSimpArgs false
set_option maxRecDepth 10000
set_option maxHeartbeats 4000000

/-- two rows of pairs of the call's own, one behind the other -/
theorem PoS.app {S1 S2 S : Nat → Prop} {H H' : Heap} {v v' : Value} {l lx : List Pr} {q qx : List (Value × Int)}
    (hk : Pk (fun k b => Own 1 H k b.length (bvs b) ∧ (0 < sc k → S1 (sb k) ∧ sb k ≠ sb v)) q l) (ho : Own 2 H v l.length (pcs q)) (hd : Dis q) (hf : 0 < sc v → S1 (sb v))
    (hkx : Pk (fun k b => Own 1 H k b.length (bvs b) ∧ (0 < sc k → S2 (sb k))) qx lx) (hdx : Dis qx)
    (d : ∀ z, S1 z → ¬ S2 z) (m1 : ∀ z, S1 z → S z) (m2 : ∀ z, S2 z → S z) (mn : S H.size)
    (hap : App 2 H H' v v' l.length (pcs q) (pcs qx) lx.length) : PoS S H' v' (l ++ lx) := by
  have hlen := hk.len
  have hlenx := hkx.len
  refine ⟨⟨q ++ qx, ?_, ?_, ?_⟩, ?_⟩
  · have e1 : Pk (fun k b => Own 1 H' k b.length (bvs b) ∧ (0 < sc k → S (sb k) ∧ sb k ≠ sb v')) q l := hk.mono fun k b hb => ⟨hb.1.keep hap.keep (fun hc e => (hb.2 hc).2 e.1), fun hc => ⟨m1 _ (hb.2 hc).1, by
      rcases hap.place with ⟨e1, _⟩ | ⟨e1, _⟩
      · rw [e1]; exact (hb.2 hc).2
      · have := hb.1.lt hc; omega⟩⟩
    have e2 : Pk (fun k b => Own 1 H' k b.length (bvs b) ∧ (0 < sc k → S (sb k) ∧ sb k ≠ sb v')) qx lx := ⟨hlenx, fun i x p hx hp => by
      have hi := (List.getElem?_eq_some_iff.1 hx).1
      obtain ⟨a, hb⟩ := hkx.at_ i x p hx hp
      have off : 0 < sc x.1 → ¬ (sb x.1 = sb v ∧ l.length + lx.length ≤ sc v) := fun hc e => d _ (hf (by have := e.2; omega)) (by rw [← e.1]; exact hb.2 hc)
      refine ⟨a, hb.1.keep hap.keep (fun hc e => off hc ⟨e.1, e.2.1⟩), fun hc => ⟨m2 _ (hb.2 hc), ?_⟩⟩
      rcases hap.place with ⟨e1, _, _, e4, _⟩ | ⟨e1, _⟩
      · rw [e1]; exact fun e => off hc ⟨e, e4⟩
      · have := hb.1.lt hc; omega⟩
    exact e1.append e2
  · rw [pcs_append, List.length_append]
    exact hap.own
  · intro i j x y hx hy hne hcx hcy
    have at1 : ∀ (i : Nat) (x : Value × Int), q[i]? = some x → 0 < sc x.1 → S1 (sb x.1) := fun i x hx hc => by
      have hi := (List.getElem?_eq_some_iff.1 hx).1
      obtain ⟨r, hr⟩ : ∃ r, l[i]? = some r := ⟨_, List.getElem?_eq_getElem (by omega)⟩
      exact ((hk.at_ i x r hx hr).2.2 hc).1
    have at2 : ∀ (i : Nat) (x : Value × Int), qx[i]? = some x → 0 < sc x.1 → S2 (sb x.1) := fun i x hx hc => by
      have hi := (List.getElem?_eq_some_iff.1 hx).1
      obtain ⟨r, hr⟩ : ∃ r, lx[i]? = some r := ⟨_, List.getElem?_eq_getElem (by omega)⟩
      exact (hkx.at_ i x r hx hr).2.2 hc
    by_cases hi : i < q.length <;> by_cases hj : j < q.length
    · rw [List.getElem?_append_left hi] at hx
      rw [List.getElem?_append_left hj] at hy
      exact hd i j x y hx hy hne hcx hcy
    · rw [List.getElem?_append_left hi] at hx
      rw [List.getElem?_append_right (by omega)] at hy
      exact fun e => d _ (at1 i x hx hcx) (by rw [e]; exact at2 _ y hy hcy)
    · rw [List.getElem?_append_right (by omega)] at hx
      rw [List.getElem?_append_left hj] at hy
      exact fun e => d _ (at1 j y hy hcy) (by rw [← e]; exact at2 _ x hx hcx)
    · rw [List.getElem?_append_right (by omega)] at hx
      rw [List.getElem?_append_right (by omega)] at hy
      exact hdx _ _ x y hx hy (by omega) hcx hcy
  · intro hc
    rcases hap.place with ⟨e1, e2, e3, e4, _⟩ | ⟨e1, _⟩
    · rw [e1]; exact m1 _ (hf (by omega))
    · rw [e1]; exact mn
theorem PoS.nil (S : Nat → Prop) (H : Heap) : PoS S H (.slice none 0 0) [] := ⟨⟨[], Pk.nil _, Own.nil 2 H, fun i j x y hx => by simp at hx⟩, fun h => by simp [sc] at h⟩
theorem PoS.mono {S S' : Nat → Prop} {H : Heap} {v : Value} {l : List Pr} (h : PoS S H v l) (m : ∀ z, S z → z < H.size → S' z) : PoS S' H v l := by
  obtain ⟨q, hk, ho, hd⟩ := h.row
  exact ⟨⟨q, hk.mono fun _ _ hb => ⟨hb.1, fun hc => ⟨m _ (hb.2 hc).1 (hb.1.lt hc), (hb.2 hc).2⟩⟩, ho, hd⟩, fun hc => m _ (h.fresh hc) (ho.lt hc)⟩
theorem PoS.keepN {S : Nat → Prop} {H H' : Heap} {v : Value} {l : List Pr} (h : PoS S H v l) (k : Keep Non H H') : PoS S H' v l := h.keep k (fun _ _ h => h)
/-- one pair, its key made anew -/
theorem Pk.own1 {S : Nat → Prop} {H : Heap} {k : Value} {p : Pr} (h : Own 1 H k p.1.length (bvs p.1)) (hs : 0 < sc k → S (sb k)) : Pk (fun k b => Own 1 H k b.length (bvs b) ∧ (0 < sc k → S (sb k))) [(k, p.2)] [p] := Pk.one (p := p) ⟨h, hs⟩
theorem Dis.one (x : Value × Int) : Dis [x] := fun i j a b ha hb hne => by
  have h1 := (List.getElem?_eq_some_iff.1 ha).1
  have h2 := (List.getElem?_eq_some_iff.1 hb).1
  simp at h1 h2
  omega
/-- a row of one pair, all of it new -/
theorem PoS.one {S : Nat → Prop} {H : Heap} {v k : Value} {p : Pr} (ho : Own 2 H v 1 [k, .int .u64 p.2]) (hf : 0 < sc v → S (sb v)) (hk : Own 1 H k p.1.length (bvs p.1)) (hs : 0 < sc k → S (sb k) ∧ sb k ≠ sb v) : PoS S H v [p] :=
  ⟨⟨[(k, p.2)], Pk.one (p := p) ⟨hk, hs⟩, ho, Dis.one _⟩, hf⟩
theorem CelR.keepN {B0 : Nat} {H H' : Heap} {y : Cel × Value × Value} {c : Cel} (h : CelR (fun z => z < B0) H y c) (k : Keep Non H H') : CelR (fun z => z < B0) H' y c := h.step k (fun _ _ h => h) (fun _ h => h)
def zCel : Cel × Value × Value := ({}, .slice none 0 0, .slice none 0 0)
theorem zCel_r (B0 : Nat) (H : Heap) : CelR (fun z => z < B0) H zCel {} := ⟨rfl, ⟨Bs.nil H, (fun h => absurd rfl h)⟩, ⟨isSl_nil, [], Pk.nil _, Cels.nil _ _ _⟩, (fun h => absurd rfl h)⟩

theorem shp_cell {l : List Cel} {vc : Value} {B0 i : Nat} {H : Heap} (hC : CR B0 H vc l) (hB : B0 ≤ H.size) : Ret Tryd.prog 51 [.agg [vc].toArray, .int .i64 i] H (fun v H' => Keep Non H H' ∧ ∃ y c, v = .tuple #[.agg (encC y).toArray, .bool (l[i]?).isSome] ∧ CelR (fun z => z < B0) H' y c ∧ ∀ d, l[i]? = some d → c = d) := by
  have sC := hC.sl
  have cC := sC.cap
  refine ret_of Tryd.func51 rfl rfl rfl rfl ?_
  intro w0
  refine zrun ?_ ?_
  refine x_box (cs := [vc]) rfl rfl rfl trivial ?_
  intro H1 hn1
  refine ⟨trivial, ?_⟩
  refine x_alloc rfl rfl trivial ?_
  intro H2 hn2
  refine ⟨trivial, ?_⟩
  have hs1 := hn1.size
  have hs2 := hn2.size
  have hk2 := hn2.old hn1.keep
  have hC2 := CR.keepN hC hk2
  have hB2 : Blk H2 H.size [vc] := hn1.blk.keep hn2.keep (fun h => h)
  have hB4 : Blk H2 H1.size zC := hn2.blk
  have r0 : cel H2 H.size 0 = some vc := by rw [hB2.cel]; rfl
  refine zrun ?_ ?_
  refine x_load rfl rfl (hpmt (r0)) rfl trivial ?_
  refine zrun ?_ ?_
  refine cw_cond rfl (fun h1 => ?_) (fun h1 => ?_) <;> (try simp at h1)
  · have hn : l[i]? = none := List.getElem?_eq_none (by omega)
    refine zrun ?_ ?_
    refine x_build (cs := zC) rfl rfl rfl ocp_nil rfl trivial ?_
    refine x_stores rfl rfl rfl rfl (by simp [zC, oneC, Value.oneCell']) hB4 (by simp [zC]) trivial ?_
    intro H3 hB hk3 hs3
    refine ⟨trivial, ?_⟩
    refine zrun ?_ ?_
    exact cw_retc2 rfl rfl rfl rfl (hB.cels 0 9 (by simp [putL, zC])) ⟨keep_at hk2 hk3 (by omega), zCel, {}, by rw [hn]; rfl, zCel_r _ _, fun d hd => by rw [hn] at hd; cases hd⟩
  · obtain ⟨c, hc⟩ : ∃ c, l[i]? = some c := ⟨_, List.getElem?_eq_getElem (by omega)⟩
    obtain ⟨y, hy, hcels⟩ := Rd.cels hC2 encC_len hc
    refine zrun ?_ ?_
    refine x_load rfl rfl (hpmt (r0)) rfl trivial ?_
    refine zrun ?_ ?_
    refine x_loads (cs := encC y) rfl rfl rfl (hpmt hcels) rfl trivial ?_
    refine x_stores rfl rfl rfl rfl (CelR.oneC hy) hB4 (by simp [zC, encC]) trivial ?_
    intro H3 hB hk3 hs3
    refine ⟨trivial, ?_⟩
    refine zrun ?_ ?_
    refine cw_retc2 rfl rfl rfl rfl (hB.cels 0 9 (by simp [putL, zC, encC])) ⟨keep_at hk2 hk3 (by omega), y, c, by rw [hc]; rfl, hy.step hk3 (fun z hz e => ?_) (fun _ h => h), fun d hd => by rw [hc] at hd; injection hd⟩
    have e : z = H1.size := e
    omega
theorem shp_plain {y : Cel × Value × Value} {c : Cel} {B0 : Nat} {kind : Int} {H : Heap} (hy : CelR (fun z => z < B0) H y c) : Ret Tryd.prog 52 [.agg (encC y).toArray, .int .i64 kind] H (fun v H' => Keep Non H H' ∧ ∃ e : Bool, v = .bool e ∧ (e = true ↔ Leaf c kind)) := by
  have sK := hy.2.1.1.sl
  have sP := hy.2.2.1.sl
  have cP := sP.cap
  refine ret_of Tryd.func52 rfl rfl rfl rfl ?_
  intro w0
  refine zrun ?_ ?_
  refine x_box (cs := encC y) rfl rfl rfl trivial ?_
  intro H1 hn1
  refine ⟨trivial, ?_⟩
  have D := celD_of (hn1.blk : Blk H1 H.size (encC y)) hy.1
  refine zrun ?_ ?_
  refine x_load rfl rfl (hpmt (D.d0)) rfl trivial ?_
  refine zrun ?_ ?_
  refine x_split 9 rfl (fun g0 => ?_) (fun g0 => ?_) <;> (try simp at g0)
  · refine zrun ?_ ?_
    refine x_load rfl rfl (hpmt (D.d1)) rfl trivial ?_
    refine zrun ?_ ?_
    refine x_split 14 rfl (fun g1 => ?_) (fun g1 => ?_) <;> (try simp at g1)
    · refine zrun ?_ ?_
      refine x_load rfl rfl (hpmt (D.d3)) rfl trivial ?_
      refine zrun ?_ ?_
      refine x_split 19 rfl (fun g2 => ?_) (fun g2 => ?_) <;> (try simp at g2)
      · refine zrun ?_ ?_
        refine x_load rfl rfl (hpmt (D.d4)) rfl trivial ?_
        refine zrun ?_ ?_
        rw [byte_zero]
        refine x_split 24 rfl (fun g3 => ?_) (fun g3 => ?_) <;> (try simp at g3)
        · refine zrun ?_ ?_
          refine x_load rfl rfl (hpmt (D.d5)) rfl trivial ?_
          refine zrun ?_ ?_
          refine x_split 29 rfl (fun g4 => ?_) (fun g4 => ?_) <;> (try simp at g4)
          · refine zrun ?_ ?_
            refine x_load rfl rfl (hpmt (D.d8)) rfl trivial ?_
            refine zrun ?_ ?_
            refine x_split 35 rfl (fun g5 => ?_) (fun g5 => ?_) <;> (try simp at g5)
            · have hp0 : c.pairs = [] := by first | exact g5 | exact List.length_eq_zero_iff.1 (by omega)
              refine zrun ?_ ?_
              refine x_load rfl rfl (hpmt (D.d2)) rfl trivial ?_
              refine zrun ?_ ?_
              refine x_split 40 rfl (fun g6 => ?_) (fun g6 => ?_) <;> (try simp at g6)
              · refine zrun ?_ ?_
                refine x_load rfl rfl (hpmt (D.d7)) rfl trivial ?_
                refine zrun ?_ ?_
                refine x_call rfl rfl rfl trivial (key_May sK) ?_
                rintro _ _ ⟨rfl, rfl⟩
                refine ⟨trivial, ?_⟩
                refine zrun ?_ ?_
                exact cw_ret1 rfl rfl ⟨hn1.keep, _, rfl, (fun e => ⟨g0, g1, g2, g3, g4, hp0, g6, of_decide_eq_true e⟩), (fun h => decide_eq_true h.key)⟩
              · refine zrun ?_ ?_
                exact cw_ret1 rfl rfl ⟨hn1.keep, _, rfl, (fun e => by cases e), (fun h => absurd h.count g6)⟩
            · refine zrun ?_ ?_
              exact cw_ret1 rfl rfl ⟨hn1.keep, _, rfl, (fun e => by cases e), (fun h => absurd h.pairs g5)⟩
          · refine zrun ?_ ?_
            exact cw_ret1 rfl rfl ⟨hn1.keep, _, rfl, (fun e => by cases e), (fun h => by rw [h.full] at g4; cases g4)⟩
        · refine zrun ?_ ?_
          exact cw_ret1 rfl rfl ⟨hn1.keep, _, rfl, (fun e => by cases e), (fun h => absurd h.byte g3)⟩
      · refine zrun ?_ ?_
        exact cw_ret1 rfl rfl ⟨hn1.keep, _, rfl, (fun e => by cases e), (fun h => absurd h.kids g2)⟩
    · refine zrun ?_ ?_
      exact cw_ret1 rfl rfl ⟨hn1.keep, _, rfl, (fun e => by cases e), (fun h => absurd h.at_ g1)⟩
  · refine zrun ?_ ?_
    exact cw_ret1 rfl rfl ⟨hn1.keep, _, rfl, (fun e => by cases e), (fun h => absurd h.kind g0)⟩

theorem shp_own {y : Cel × Value × Value} {c : Cel} {B0 : Nat} {vk : Value} {k : Bytes} {H : Heap} (hy : CelR (fun z => z < B0) H y c) (hK : Bs H vk k) (hk : k.length ≤ 1000000) : Ret Tryd.prog 53 [.agg (encC y).toArray, vk] H (fun v H' => Keep Non H H' ∧ ∃ kk, v = .agg [kk, .int .u64 c.val].toArray ∧ Own 1 H' kk k.length (bvs k) ∧ Fresh H kk) := by
  have sK := hK.sl
  refine ret_of Tryd.func53 rfl rfl rfl rfl ?_
  intro w0
  refine zrun ?_ ?_
  refine x_box (cs := encC y) rfl rfl rfl trivial ?_
  intro H1 hn1
  refine ⟨trivial, ?_⟩
  refine x_alloc rfl rfl trivial ?_
  intro H2 hn2
  refine ⟨trivial, ?_⟩
  have hs1 := hn1.size
  have hs2 := hn2.size
  have hk2 := hn2.old hn1.keep
  have D := (celD_of (hn1.blk : Blk H1 H.size (encC y)) hy.1).keepN hn2.keep
  have hB4 : Blk H2 H1.size [.slice none 0 0, .int .u64 0] := hn2.blk
  have hK2 := hK.keepN hk2
  have hkr := Keep.refl Non H2
  refine zrunc ?_ ?_
  refine cw_held (fun _ => Keep Non H2) ⟨[1, 5], [(3, 0)]⟩ (.op 0 (.op 2 (.op 3 (.op 1 (.op 4 (.op 5 (.nil))))))) panicOk_body mixed (by kernel_rfl) ?_
  refine zhrun ?_ ?_
  refine x_load rfl rfl (hpmk rfl (fun _ hk => hk.cel D.d6 (fun h => h))) rfl (okq_load rfl rfl (by assumption)) ?_
  refine zhrun ?_ ?_
  refine x_append (by rfl) (by rfl) (by rfl) rfl rfl rfl (Own.nil 1 H2) sK (by rw [bvs_length, Nat.mul_one]) hK2.at_ (bvs_oneC _) (by omega) rfl ⟨rfl, rfl⟩ ?_
  intro v3 H3 hap
  have hk3 : Keep Non H2 H3 := hap.old (Fresh.nil H2) (Keep.refl _ _)
  refine ⟨okm_keep hk3 (fun _ _ h => h), ?_⟩
  have hf3 := hap.fresh (Fresh.nil H2) (Nat.le_refl _)
  have hO : Own 1 H3 v3 k.length (bvs k) := by simpa using hap.own
  have hov := isSl_oneC hO.sl
  have hB43 := hB4.keep hk3 (fun h => h)
  refine zhrun ?_ ?_
  refine x_build (cs := [v3, .int .u64 c.val]) rfl rfl rfl (ocp_cons hov (ocp_cons rfl ocp_nil)) rfl (okq_reg rfl rfl) ?_
  refine x_stores rfl rfl rfl rfl (oc_cons hov (oc_cons rfl oc_nil)) hB43 (by simp) ⟨rfl, rfl⟩ ?_
  intro H4 hB hk4 hs4
  refine ⟨okm_free (fun c => by cases c <;> kernel_rfl), ?_⟩
  refine zhrun ?_ ?_
  refine zrun ?_ ?_
  refine cw_retc rfl rfl rfl (hB.cels 0 2 (by simp [putL])) ⟨keep_at (hk2.non_trans hk3) hk4 (by omega), v3, rfl, hO.keep hk4 (fun hc e => by have := hf3 hc; have e : sb v3 = H1.size := e; omega), fun hc => by have := hf3 hc; omega⟩

/-- a cell that may be a node's with children -/
structure InnerP (c : Cel) : Prop where
  at_ : c.at_ = 0
  byte : c.byte = 0
  pairs : c.pairs = []
  kids0 : 0 ≤ c.kids
  kids : c.kids ≤ 256
  full : c.full = true ∨ c.val = 0
  key : c.key.length ≤ 65535
theorem shp_inner {y : Cel × Value × Value} {c : Cel} {B0 i : Nat} {H : Heap} (hy : CelR (fun z => z < B0) H y c) (hi : i ≤ 1000000) : Ret Tryd.prog 57 [.agg (encC y).toArray, .int .i64 i] H (fun r H' => Keep Non H H' ∧ ∃ (e : Bool) (v : Value) (n d : Int) (P : List Pr), r = .tuple #[.agg [v, .int .i64 n, .int .i64 d].toArray, .bool e] ∧ PoS (fun z => H.size ≤ z) H' v P ∧ P.length ≤ 1 ∧ (e = true → InnerP c ∧ n = ((i + 1 : Nat) : Int) ∧ d = 1 ∧ P = (begR c i).P) ∧ (e = false → ¬ InnerP c)) := by
  have sK := hy.2.1.1.sl
  have sP := hy.2.2.1.sl
  have cP := sP.cap
  refine ret_of Tryd.func57 rfl rfl rfl rfl ?_
  intro w0
  refine zrun ?_ ?_
  refine x_box (cs := encC y) rfl rfl rfl trivial ?_
  intro H1 hn1
  refine ⟨trivial, ?_⟩
  refine x_alloc rfl rfl trivial ?_
  intro H2 hn2
  refine ⟨trivial, ?_⟩
  have hs1 := hn1.size
  have hs2 := hn2.size
  have hk2 := hn2.old hn1.keep
  have hB22 : Blk H2 H.size (encC y) := (hn1.blk : Blk H1 H.size (encC y)).keep hn2.keep (fun h => h)
  have D := celD_of hB22 hy.1
  have hB4 : Blk H2 H1.size [.slice none 0 0, .int .i64 0, .int .i64 0] := hn2.blk
  refine zrunc ?_ ?_
  refine cw_cut (fun e : Bool => [(1, .int .i64 i), (2, ptr H.size 0), (4, ptr H1.size 0), (5, .bool false), (46, .bool e)]) (fun e H' => H2 = H' ∧ (e = true → ¬ InnerP c) ∧ (e = false → InnerP c)) ?_ ?_
  · refine zrun ?_ ?_
    refine x_load rfl rfl (hpmt (D.d1)) rfl trivial ?_
    refine zrun ?_ ?_
    refine x_split 10 rfl (fun g0 => ?_) (fun g0 => ?_) <;> (try simp at g0)
    · refine zrun ?_ ?_
      exact nw_meet true (by repeat (first | exact True.intro | refine ⟨rfl, ?_⟩)) ⟨rfl, (fun _ h => g0 h.at_), (fun e => by cases e)⟩
    · refine zrun ?_ ?_
      refine x_load rfl rfl (hpmt (D.d4)) rfl trivial ?_
      refine zrun ?_ ?_
      refine x_split 15 rfl (fun g1 => ?_) (fun g1 => ?_) <;> (try simp at g1)
      · refine zrun ?_ ?_
        exact nw_meet true (by repeat (first | exact True.intro | refine ⟨rfl, ?_⟩)) ⟨rfl, (fun _ h => by rw [h.byte] at g1; exact g1 rfl), (fun e => by cases e)⟩
      · refine zrun ?_ ?_
        refine x_load rfl rfl (hpmt (D.d8)) rfl trivial ?_
        refine zrun ?_ ?_
        refine x_split 21 rfl (fun g2 => ?_) (fun g2 => ?_) <;> (try simp at g2)
        · refine zrun ?_ ?_
          exact nw_meet true (by repeat (first | exact True.intro | refine ⟨rfl, ?_⟩)) ⟨rfl, (fun _ h => by rw [h.pairs] at g2; simp at g2), (fun e => by cases e)⟩
        · have hp0 : c.pairs = [] := by first | exact g2 | exact List.length_eq_zero_iff.1 (by omega)
          refine zrun ?_ ?_
          refine x_load rfl rfl (hpmt (D.d3)) rfl trivial ?_
          refine zrun ?_ ?_
          refine x_split 26 rfl (fun g3 => ?_) (fun g3 => ?_) <;> (try simp at g3)
          · refine zrun ?_ ?_
            exact nw_meet true (by repeat (first | exact True.intro | refine ⟨rfl, ?_⟩)) ⟨rfl, (fun _ h => by have := h.kids0; omega), (fun e => by cases e)⟩
          · refine zrun ?_ ?_
            refine x_load rfl rfl (hpmt (D.d3)) rfl trivial ?_
            refine zrun ?_ ?_
            refine x_split 31 rfl (fun g4 => ?_) (fun g4 => ?_) <;> (try simp at g4)
            · refine zrun ?_ ?_
              exact nw_meet true (by repeat (first | exact True.intro | refine ⟨rfl, ?_⟩)) ⟨rfl, (fun _ h => by have := h.kids; omega), (fun e => by cases e)⟩
            · refine zrun ?_ ?_
              refine x_load rfl rfl (hpmt (D.d5)) rfl trivial ?_
              refine zrun ?_ ?_
              refine x_split 35 rfl (fun g5 => ?_) (fun g5 => ?_) <;> (try simp at g5)
              · refine zrun ?_ ?_
                refine x_load rfl rfl (hpmt (D.d6)) rfl trivial ?_
                refine zrun ?_ ?_
                refine x_split 41 rfl (fun g6 => ?_) (fun g6 => ?_) <;> (try simp at g6)
                · refine zrun ?_ ?_
                  exact nw_meet true (by repeat (first | exact True.intro | refine ⟨rfl, ?_⟩)) ⟨rfl, (fun _ h => by rcases h.full with h | h <;> simp_all), (fun e => by cases e)⟩
                · refine zrun ?_ ?_
                  refine x_load rfl rfl (hpmt (D.d7)) rfl trivial ?_
                  refine zrun ?_ ?_
                  refine x_call rfl rfl rfl trivial (key_May sK) ?_
                  rintro _ _ ⟨rfl, rfl⟩
                  refine ⟨trivial, ?_⟩
                  refine zrun ?_ ?_
                  exact nw_meet _ (by repeat (first | exact True.intro | refine ⟨rfl, ?_⟩)) ⟨rfl, (fun e h => by rw [decide_eq_true h.key] at e; cases e), (fun e => ⟨g0, UInt8.toNat_inj.1 g1, hp0, by omega, by omega, .inr g6, by simpa using e⟩)⟩
              · refine zrun ?_ ?_
                refine x_load rfl rfl (hpmt (D.d7)) rfl trivial ?_
                refine zrun ?_ ?_
                refine x_call rfl rfl rfl trivial (key_May sK) ?_
                rintro _ _ ⟨rfl, rfl⟩
                refine ⟨trivial, ?_⟩
                refine zrun ?_ ?_
                exact nw_meet _ (by repeat (first | exact True.intro | refine ⟨rfl, ?_⟩)) ⟨rfl, (fun e h => by rw [decide_eq_true h.key] at e; cases e), (fun e => ⟨g0, UInt8.toNat_inj.1 g1, hp0, by omega, by omega, .inl g5, by simpa using e⟩)⟩
  rintro e _ ⟨rfl, ht, hfl⟩
  cases e with
  | true =>
    refine zrun ?_ ?_
    refine x_build (cs := [.slice none 0 0, .int .i64 0, .int .i64 0]) rfl rfl rfl ocp_nil rfl trivial ?_
    refine x_stores rfl rfl rfl rfl (by simp [oneC, Value.oneCell']) hB4 (by simp) trivial ?_
    intro H3 hB hk3 hs3
    refine ⟨trivial, ?_⟩
    refine zrun ?_ ?_
    exact cw_retc2 rfl rfl rfl rfl (hB.cels 0 3 (by simp [putL])) ⟨keep_at hk2 hk3 (by omega), false, .slice none 0 0, 0, 0, [], rfl, PoS.nil _ _, Nat.zero_le _, (fun e => by cases e), (fun _ => ht rfl)⟩
  | false =>
    have hI := hfl rfl
    refine zrun ?_ ?_
    refine x_build (cs := [.slice none 0 0, .int .i64 (i + 1), .int .i64 1]) rfl rfl rfl (ocp_cons rfl (ocp_cons rfl ocp_nil)) rfl trivial ?_
    refine x_alloc rfl rfl trivial ?_
    intro H3 hn3
    refine ⟨trivial, ?_⟩
    refine x_stores rfl rfl rfl rfl (by simp [oneC, Value.oneCell']) hn3.blk (by simp) trivial ?_
    intro H4 hB6 hk4 hs4
    refine ⟨trivial, ?_⟩
    have hs3 := hn3.size
    have hk24 : Keep Non H2 H4 := keep_at hn3.keep hk4 (Nat.le_refl _)
    have D4 := D.keepN hk24
    have hB24 := hB22.keep hk24 (fun h => h)
    have hB44 := hB4.keep hk24 (fun h => h)
    have hk04 := hk2.non_trans hk24
    have hy4 := hy.keepN hk04
    have hB6 : Blk H4 H2.size [.slice none 0 0, .int .i64 ((i + 1 : Nat) : Int), .int .i64 1] := hB6
    refine zrun ?_ ?_
    refine x_load rfl rfl (hpmt (D4.d5)) rfl trivial ?_
    refine zrun ?_ ?_
    refine cw_cut (fun v : Value => [(4, ptr H1.size 0), (5, .bool false), (6, ptr H2.size 0)]) (fun v H' => Keep Non H H' ∧ Blk H' H1.size [.slice none 0 0, .int .i64 0, .int .i64 0] ∧ Blk H' H2.size [v, .int .i64 ((i + 1 : Nat) : Int), .int .i64 1] ∧ PoS (fun z => H4.size ≤ z) H' v (begR c i).P) ?_ ?_
    · refine cw_cond rfl (fun hfull => ?_) (fun hfull => ?_) <;> (try simp at hfull)
      · have e6 : cel H4 H2.size 0 = some (.slice none 0 0) := by rw [hB6.cel]; rfl
        have hkr := Keep.refl Non H4
        have hP : (begR c i).P = [(c.key, c.val)] := by unfold begR; rw [hfull]; rfl
        rw [hP]
        refine zrunc ?_ ?_
        refine cw_held (fun _ => Keep Non H4) ⟨[5, 6, 7, 9], [(1, 0), (2, 0), (4, 0)]⟩ (.op 0 (.op 1 (.op 2 (.op 3 (.op 4 (.op 5 (.op 6 (.op 7 (.op 8 (.op 9 (.nil))))))))))) panicOk_body mixed (by kernel_rfl) ?_
        refine zhrun ?_ ?_
        refine x_load rfl rfl (hpmk rfl (fun _ hk => hk.cel e6 (fun h => h))) rfl (okq_load rfl rfl (by assumption)) ?_
        refine zhrun ?_ ?_
        refine x_loads (cs := encC y) rfl rfl rfl (hpmk rfl (fun _ hk => (hB24.cels 0 9 (by simp [encC])).keep hk (fun _ h => h))) rfl (okq_load rfl rfl (by assumption)) ?_
        refine zhrun ?_ ?_
        refine x_load rfl rfl (hpmk rfl (fun _ hk => hk.cel D4.d7 (fun h => h))) rfl (okq_load rfl rfl (by assumption)) ?_
        refine zhrun ?_ ?_
        refine x_call rfl rfl rfl ⟨rfl, rfl⟩ (shp_own hy4 hy4.2.1.1 (by have := hI.key; omega)) ?_
        rintro _ H5 ⟨hk5, kk, rfl, hO5, hf5⟩
        refine ⟨okm_keep hk5 (fun _ _ h => h), ?_⟩
        have hovk := isSl_oneC hO5.sl
        refine zhrun ?_ ?_
        refine x_buildSliceS1 (by rfl) rfl rfl (by omega) (by rfl) rfl ⟨rfl, rfl⟩ ?_
        intro H6 hn6
        refine ⟨okm_keep hn6.keep (fun _ _ h => h), ?_⟩
        have hs5 := hk5.size
        have hs6 := hn6.size
        have hO6 := hO5.keep hn6.keep (fun _ h => h)
        refine zhrun ?_ ?_
        refine x_append (by rfl) (by rfl) (by rfl) rfl rfl rfl (Own.nil 2 H6) (isSl_some (Nat.le_refl _) (by omega)) (m := 1) (cx := [kk, .int .u64 c.val]) rfl (hn6.blk.cels 0 2 (by simp)) (two_oneC' hovk) (by omega) rfl ⟨rfl, rfl⟩ ?_
        intro v7 H7 hap
        have hk7 : Keep Non H6 H7 := hap.old (Fresh.nil H6) (Keep.refl _ _)
        refine ⟨okm_keep hk7 (fun _ _ h => h), ?_⟩
        have hk47 := (hn6.old hk5).non_trans hk7
        have hs7 := hk7.size
        have hV7 : PoS (fun z => H4.size ≤ z) H7 v7 [(c.key, c.val)] := PoS.app (S1 := fun _ => False) (S2 := fun z => H4.size ≤ z) (l := []) (q := []) (qx := [(kk, c.val)]) (Pk.nil _) (Own.nil 2 H6) (fun i j x y hx => by simp at hx) (fun h => by simp [sc] at h) (Pk.own1 (p := (c.key, c.val)) hO6 (fun hc => hf5 hc)) (Dis.one _) (fun _ h => h.elim) (fun _ h => h.elim) (fun _ h => h) (by show H4.size ≤ H6.size; omega) hap
        have hB67 := hB6.keep hk47 (fun h => h)
        have hB47 := hB44.keep hk47 (fun h => h)
        have hov := isSl_oneC hV7.ps.sl
        refine zhrun ?_ ?_
        refine x_store rfl rfl rfl hov hB67 (by simp) ⟨rfl, rfl⟩ ?_
        intro H8 hB8 hk8 hs8
        refine ⟨okm_free (fun c => by cases c <;> kernel_rfl), ?_⟩
        refine zhrun ?_ ?_
        refine zrun ?_ ?_
        exact nw_meet v7 (by repeat (first | exact True.intro | refine ⟨rfl, ?_⟩)) ⟨keep_at (hk04.non_trans hk47) hk8 (by omega), hB47.keep hk8 (fun e => by have e : H1.size = H2.size := e; omega), hB8, hV7.keep hk8 (fun z hz e => by have e : z = H2.size := e; omega)⟩
      · have hP : (begR c i).P = [] := by unfold begR; rw [hfull]; rfl
        refine zrun ?_ ?_
        exact nw_meet (.slice none 0 0) (by repeat (first | exact True.intro | refine ⟨rfl, ?_⟩)) ⟨hk04, hB44, hB6, by rw [hP]; exact PoS.nil _ _⟩
    rintro v H5 ⟨hk05, hB45, hB65, hV5⟩
    have hov := isSl_oneC hV5.ps.sl
    refine zrun ?_ ?_
    refine x_loads (cs := [v, .int .i64 ((i + 1 : Nat) : Int), .int .i64 1]) rfl rfl rfl (hpmt (hB65.cels 0 3 (by simp))) rfl trivial ?_
    refine x_stores rfl rfl rfl rfl (oc_cons hov (oc_cons rfl (oc_cons rfl oc_nil))) hB45 (by simp) trivial ?_
    intro H6 hB6' hk6 hs6
    refine ⟨trivial, ?_⟩
    refine zrun ?_ ?_
    refine cw_retc2 rfl rfl rfl rfl (hB6'.cels 0 3 (by simp [putL])) ⟨keep_at hk05 hk6 (by omega), true, v, ((i + 1 : Nat) : Int), 1, (begR c i).P, rfl, ?_, ?_, (fun _ => ⟨hI, rfl, rfl, rfl⟩), (fun e => by cases e)⟩
    · exact (hV5.keep hk6 (fun z hz e => by have e : z = H1.size := e; omega)).mono (fun z hz _ => by omega)
    · unfold begR; cases c.full <;> simp
end Go.Proofs.YtkdmcbacofafpaaDoor.X
