/- Chapter 11, the program: the children of a node. -/
import Derived.Test.YtkdmcbacofafpaaDoorK11b
namespace Go.Proofs.YtkdmcbacofafpaaDoor.X
open Go Go.Proofs
set_option linter.unusedVariables false
set_option linter.unusedSimpArgs false
set_option maxRecDepth 10000
set_option maxHeartbeats 4000000

/-! loads of two classes -/
section
variable {S : Nat → Nat → Prop} {ri : RI} {ops : List Oper} {i : Nat} {H H' H0 : Heap}
theorem hpmc {c : Nat} {p : Heap → Prop} (h2 : ri.cls i = some c) (h : ∀ H', Keep (S c) H0 H' → p H') : ∀ H', hpm (.held (fun c => Keep (S c) H0) ri) i H H' → p H' := fun H' hM => h H' (hM c h2)
theorem okm_keepC {S' : Nat → Prop} (hk : Keep S' H H') (hs : ∀ c b, b < H0.size → S' b → S c b) : okm ops (.held (fun c => Keep (S c) H0) ri) i H H' := fun c _ hC => hC.step hk (hs c)
theorem okm_one {S' : Nat → Prop} (hk : Keep S' H H') (h0 : ri.needs ops.toArray i 0 = false) (hcl : ri.cl.all (fun x => Nat.blt x.2 2) = true) (hs : ∀ b, b < H0.size → S' b → S 1 b) : okm ops (.held (fun c => Keep (S c) H0) ri) i H H' := fun c hc hC => by
  match c, hc, hC with
  | 0, hc, _ => rw [h0] at hc; cases hc
  | 1, _, hC => exact hC.step hk hs
  | c + 2, hc, _ =>
    exfalso
    unfold RI.needs at hc
    obtain ⟨x, hx, h1⟩ := List.any_eq_true.1 hc
    have h2 := List.all_eq_true.1 hcl x hx
    simp only [Bool.and_eq_true, beq_iff_eq] at h1
    have h3 : x.2 = c + 2 := h1.1.1
    have h4 : x.2 ≤ 1 := by simpa [Nat.blt] using h2
    omega
end
/-- what was read, with its bounds -/
structure Good8 (l : List Cel) (i : Nat) (x : PT) : Prop where
  lt : i < x.next
  le : x.next ≤ l.length
  one : 1 ≤ x.deep
  deep : x.deep + i ≤ x.next
  few : x.P.length + 8 * i ≤ 8 * x.next
structure Part8 (l : List Cel) (i : Nat) (r : PT) : Prop where
  lt : i < r.next
  le : r.next ≤ l.length
  deep : r.deep + i + 1 ≤ r.next
  few : r.P.length + 8 * i ≤ 8 * r.next
theorem Part8.step {l : List Cel} {i : Nat} {r x : PT} (h : Part8 l i r) (hx : Good8 l r.next x) : Part8 l i ⟨r.P ++ x.P, x.next, max r.deep x.deep⟩ := by
  have h1 := h.lt; have h2 := hx.lt; have h3 := hx.le; have h4 := h.deep; have h5 := hx.deep; have h6 := h.few; have h7 := hx.few
  exact ⟨by show i < x.next; omega, h3, by show max _ _ + i + 1 ≤ x.next; omega, by show (r.P ++ x.P).length + 8 * i ≤ 8 * x.next; rw [List.length_append]; omega⟩
/-- what a reader of the program answers -/
def PrgO (o : Option PT) (H : Heap) (r : Value) (H' : Heap) : Prop := Keep Non H H' ∧ ∃ v n d P, r = .tuple #[.agg [v, .int .i64 n, .int .i64 d].toArray, .bool o.isSome] ∧ PoS (fun z => H.size ≤ z) H' v P ∧ P.length ≤ 1000000 ∧ ∀ x, o = some x → n = (x.next : Int) ∧ d = (x.deep : Int) ∧ P = x.P
def zP : List Value := [.slice none 0 0, .int .i64 0, .int .i64 0]

theorem CR.keepS {B0 : Nat} {S : Nat → Prop} {H H' : Heap} {v : Value} {l : List Cel} (h : CR B0 H v l) (hv : l ≠ [] → sb v < B0) (k : Keep S H H') (hS : ∀ z, z < B0 → ¬ S z) : CR B0 H' v l :=
  (Rd.keep h k (fun hne => hS _ (hv hne))).mono (fun _ _ hc => hc.step k hS (fun _ h => h))
theorem shp_children {l : List Cel} {vc : Value} {B0 Bc : Nat} {S0 : Nat → Prop} {exact : Bool} {k : Bytes} {vk v0 : Value} {rd : Nat → Option PT} {g : Nat} [hF : Fnc Tryd.prog g] {r0 : PT} {m i : Nat} {H : Heap} (hok : CelsOk l) (hC : CR B0 H vc l) (hv : l ≠ [] → sb vc < B0) (hB : B0 ≤ Bc) (hBc : Bc ≤ H.size) (hK : Bs H vk k) (hkb : k ≠ [] → sb vk < B0)
    (hS0 : ∀ z, S0 z → Bc ≤ z) (hSn : ∀ z, H.size ≤ z → S0 z) (hV0 : PoS S0 H v0 r0.P) (hp0 : Part8 l i r0) (hm : m ≤ 256)
    (hrd : ∀ (n : Nat) (H1 : Heap), i < n → n ≤ l.length → Keep (fun z => z = sb v0 ∧ 0 < sc v0) H H1 → CR B0 H1 vc l → B0 ≤ H1.size → Ret Tryd.prog g [.agg [vc].toArray, .int .i64 n] H1 (PrgO (rd n) H1))
    (hgd : ∀ n x, rd n = some x → Good8 l n x) :
    Ret Tryd.prog 59 [.agg [vc].toArray, .agg [v0, .int .i64 r0.next, .int .i64 ((r0.deep : Int) + 1)].toArray, .int .i64 m, vk, .bool exact, .func (.func g) [Value.agg [vc].toArray].toArray ([] : List Value).toArray] H
      (fun r H' => Keep (fun z => z = sb v0 ∧ 0 < sc v0) H H' ∧ ∃ v n d P, r = .tuple #[.agg [v, .int .i64 n, .int .i64 d].toArray, .bool (kidsX exact rd l k m r0 (-1)).isSome] ∧ PoS S0 H' v P ∧ P.length ≤ 1000000 ∧ ∀ x, kidsX exact rd l k m r0 (-1) = some x → n = (x.next : Int) ∧ d = (x.deep : Int) + 1 ∧ P = x.P) := by
  have hll := hok.len
  have sC := hC.sl
  have sK := hK.sl
  have cK := sK.cap
  have hov0 := isSl_oneC hV0.ps.sl
  obtain ⟨res, hres⟩ : ∃ res, res = kidsX exact rd l k m r0 (-1) := ⟨_, rfl⟩
  rw [← hres]
  refine ret_of Tryd.func59 rfl rfl rfl rfl ?_
  intro w0
  refine zrun ?_ ?_
  refine x_box (cs := [vc]) rfl rfl rfl trivial ?_
  intro H1 hn1
  refine ⟨trivial, ?_⟩
  refine x_box (cs := [v0, .int .i64 r0.next, .int .i64 ((r0.deep : Int) + 1)]) rfl rfl rfl trivial ?_
  intro H2 hn2
  refine ⟨trivial, ?_⟩
  refine x_alloc rfl rfl trivial ?_
  intro H3 hn3
  refine ⟨trivial, ?_⟩
  have hs1 := hn1.size
  have hs2 := hn2.size
  have hs3 := hn3.size
  have hk2 := hn2.old hn1.keep
  have hk3 := hn3.old hk2
  have hB63 : Blk H3 H.size [vc] := ((hn1.blk : Blk H1 H.size [vc]).keep hn2.keep (fun h => h)).keep hn3.keep (fun h => h)
  have hB73 : Blk H3 H1.size [v0, .int .i64 r0.next, .int .i64 ((r0.deep : Int) + 1)] := (hn2.blk : Blk H2 H1.size _).keep hn3.keep (fun h => h)
  have hB123 : Blk H3 H2.size zP := hn3.blk
  have hV3 : PoS (fun z => S0 z ∧ z ≠ H.size ∧ z ≠ H1.size ∧ z ≠ H2.size) H3 v0 r0.P := (hV0.mono (S' := fun z => S0 z ∧ z ≠ H.size ∧ z ≠ H1.size ∧ z ≠ H2.size) (fun z hz hl => ⟨hz, by omega, by omega, by omega⟩)).keepN hk3
  refine zrun ?_ ?_
  refine cw_loop (fun s : Nat × Int × PT × Value => [(3, vk), (4, .bool exact), (5, .func (.func g) [Value.agg [vc].toArray].toArray ([] : List Value).toArray), (6, ptr H.size 0), (7, ptr H1.size 0), (12, ptr H2.size 0), (13, .bool false), (14, .int .i64 s.2.1), (18, .int .i64 m), (19, .int .i64 s.1)]) (fun s H' => s.1 ≤ m ∧ kidsX exact rd l k (m - s.1) s.2.2.1 s.2.1 = res ∧ Part8 l i s.2.2.1 ∧ Keep (fun z => z = sb v0 ∧ 0 < sc v0) H H' ∧ Blk H' H.size [vc] ∧ Blk H' H1.size [s.2.2.2, .int .i64 s.2.2.1.next, .int .i64 ((s.2.2.1.deep : Int) + 1)] ∧ Blk H' H2.size zP ∧ PoS (fun z => S0 z ∧ z ≠ H.size ∧ z ≠ H1.size ∧ z ≠ H2.size) H' s.2.2.2 s.2.2.1.P ∧ H3.size ≤ H'.size ∧ (0 < sc s.2.2.2 → (sb s.2.2.2 = sb v0 ∧ 0 < sc v0) ∨ H3.size ≤ sb s.2.2.2)) (fun s => m - s.1) (0, -1, r0, v0) (by repeat (first | exact True.intro | refine ⟨rfl, ?_⟩)) ⟨Nat.zero_le _, hres.symm, hp0, hk3.mono (fun _ _ h => h.elim), hB63, hB73, hB123, hV3, Nat.le_refl _, fun hc => .inl ⟨rfl, hc⟩⟩ ?_
  rintro ⟨j, last, r, v⟩ H4 ⟨hj, hkr, hpart, hk4, hB6, hB7, hB12, hV4, hs34, hrow⟩
  simp only at hj hkr hpart hB7 hV4 hrow ⊢
  have hoff0 : ∀ z, z < B0 → ¬ (z = sb v0 ∧ 0 < sc v0) := fun z hz e => by have := hS0 _ (hV0.fresh e.2); omega
  have hC4 : CR B0 H4 vc l := CR.keepS hC hv hk4 hoff0
  have hK4 : Bs H4 vk k := hK.keep hk4 (fun hne => hoff0 _ (hkb hne))
  have pl := hpart.lt
  have pe := hpart.le
  have pd := hpart.deep
  have pf := hpart.few
  have hs4 := hk4.size
  refine zrun ?_ ?_
  refine cw_cond rfl (fun hjm => ?_) (fun hjm => ?_) <;> (try simp at hjm)
  · obtain ⟨m', hm'⟩ : ∃ m', m - j = m' + 1 := ⟨m - j - 1, by omega⟩
    rw [hm'] at hkr
    have r6 : Cels H4 H.size 0 [vc] := hB6.cels 0 1 (by simp)
    have r71 : cel H4 H1.size 1 = some (.int .i64 r.next) := by rw [hB7.cel]; rfl
    refine zrun ?_ ?_
    refine x_loads (cs := [vc]) rfl rfl rfl (hpmt r6) rfl trivial ?_
    refine zrun ?_ ?_
    refine x_load rfl rfl (hpmt (r71)) rfl trivial ?_
    refine zrun ?_ ?_
    refine x_call rfl rfl rfl trivial (shp_cell (i := r.next) hC4 (by omega)) ?_
    rintro _ H5 ⟨hk5, y, c, rfl, hy5, hcd⟩
    refine ⟨trivial, ?_⟩
    have hs5 := hk5.size
    refine zrun ?_ ?_
    refine x_alloc rfl rfl trivial ?_
    intro H6 hn6
    refine ⟨trivial, ?_⟩
    refine x_stores rfl rfl rfl rfl (CelR.oneC hy5) hn6.blk (by simp [encC]) trivial ?_
    intro H7 hB15 hk7 hs7
    refine ⟨trivial, ?_⟩
    have hs6 := hn6.size
    have hk57 : Keep Non H5 H7 := keep_at hn6.keep hk7 (Nat.le_refl _)
    have hk47 := hk5.non_trans hk57
    have hy7 := hy5.keepN hk57
    have hB67 := hB6.keep hk47 (fun h => h)
    have hB77 := hB7.keep hk47 (fun h => h)
    have hB127 := hB12.keep hk47 (fun h => h)
    have hV7 := hV4.keepN hk47
    have hC7 := CR.keepN hC4 hk47
    have hK7 := hK4.keepN hk47
    have hk07 : Keep (fun z => z = sb v0 ∧ 0 < sc v0) H H7 := hk4.step hk47 (fun _ _ h => h.elim)
    have D := celD_of (hB15 : Blk H7 H5.size (encC y)) hy7.1
    have hX := hy7.2.1.1
    have sX := hX.sl
    have cX := sX.cap
    have hK4 := hK7
    cases hd : l[r.next]? with
    | none =>
      rw [kidsX_none hd] at hkr
      refine zrun ?_ ?_
      refine x_build (cs := zP) rfl rfl rfl ocp_nil rfl trivial ?_
      refine x_stores rfl rfl rfl rfl (by simp [zP, oneC, Value.oneCell']) (hB127) (by simp [zP]) trivial ?_
      intro Hz hBz hkz hsz
      refine ⟨trivial, ?_⟩
      refine zrun ?_ ?_
      exact cw_retc2 rfl rfl rfl rfl (hBz.cels 0 3 (by simp [putL, zP])) ⟨(hk07).step hkz (fun z hz (e : z = _) => by omega), .slice none 0 0, 0, 0, [], by rw [← hkr]; rfl, PoS.nil _ _, Nat.zero_le _, fun x hx => by rw [← hkr] at hx; cases hx⟩
    | some d =>
      have hcd' := hcd d hd
      subst hcd'
      rw [kidsX_some hd] at hkr
      refine zrunc ?_ ?_
      refine cw_cut (fun e : Bool => [(3, vk), (4, .bool exact), (5, .func (.func g) [Value.agg [vc].toArray].toArray ([] : List Value).toArray), (6, ptr H.size 0), (7, ptr H1.size 0), (12, ptr H2.size 0), (13, .bool false), (14, .int .i64 last), (15, ptr H5.size 0), (18, .int .i64 m), (19, .int .i64 j), (67, .bool e)]) (fun e H' => H7 = H' ∧ (e = true → ¬ KidC exact k last c) ∧ (e = false → KidC exact k last c)) ?_ ?_
      · refine zrun ?_ ?_
        refine x_load rfl rfl (hpmt (D.d7)) rfl trivial ?_
        refine zrun ?_ ?_
        refine x_split 38 rfl (fun q1 => ?_) (fun q1 => ?_) <;> (try simp at q1)
        · refine zrun ?_ ?_
          exact nw_meet true (by repeat (first | exact True.intro | refine ⟨rfl, ?_⟩)) ⟨rfl, (fun _ h => by have := h.long; omega), (fun e => by cases e)⟩
        · have hkl : k.length < c.key.length := by omega
          have hgb : c.key[k.length]? = some (c.key.getD k.length 0) := by
            rw [List.getD_eq_getElem?_getD, List.getElem?_eq_getElem hkl]; rfl
          have hb256 := (c.key.getD k.length 0).toNat_lt
          refine zrun ?_ ?_
          cases exact with
          | true =>
            refine zrun ?_ ?_
            refine x_load rfl rfl (hpmt (D.d7)) rfl trivial ?_
            refine zrun ?_ ?_
            refine x_split 50 rfl (fun q3 => ?_) (fun q3 => ?_) <;> (try simp at q3)
            · refine zrun ?_ ?_
              exact nw_meet true (by repeat (first | exact True.intro | refine ⟨rfl, ?_⟩)) ⟨rfl, (fun _ h => by have := h.exact rfl; omega), (fun e => by cases e)⟩
            · have hex : true = true → c.key.length = k.length + 1 := fun _ => by omega
              refine zrun ?_ ?_
              refine x_load rfl rfl (hpmt (D.d7)) rfl trivial ?_
              refine zrun ?_ ?_
              refine x_call rfl rfl rfl trivial (key_Begins hX hK4) ?_
              rintro _ _ ⟨rfl, rfl⟩
              refine ⟨trivial, ?_⟩
              refine zrun ?_ ?_
              refine x_split 57 rfl (fun q4 => ?_) (fun q4 => ?_) <;> (try simp at q4)
              · refine zrun ?_ ?_
                exact nw_meet true (by repeat (first | exact True.intro | refine ⟨rfl, ?_⟩)) ⟨rfl, (fun _ h => by rw [h.beg] at q4; cases q4), (fun e => by cases e)⟩
              · have qb := hX.get _ _ hgb
                refine zrun ?_ ?_
                refine x_load rfl rfl (hpmt (D.d7)) rfl trivial ?_
                refine zrun ?_ ?_
                refine x_load rfl rfl (hpmt qb) rfl trivial ?_
                refine x_conv_int rfl rfl rfl trivial ?_
                rw [wrap_i64 (by omega) (by omega)]
                refine zrun ?_ ?_
                exact nw_meet _ (by repeat (first | exact True.intro | refine ⟨rfl, ?_⟩)) ⟨rfl, (fun e h => by have := of_decide_eq_true e; have := h.last; omega), (fun e => ⟨by omega, hex, q4, by have := of_decide_eq_false e; omega⟩)⟩
          | false =>
            have hex : false = true → c.key.length = k.length + 1 := fun e => by cases e
            refine zrun ?_ ?_
            refine x_load rfl rfl (hpmt (D.d7)) rfl trivial ?_
            refine zrun ?_ ?_
            refine x_call rfl rfl rfl trivial (key_Begins hX hK4) ?_
            rintro _ _ ⟨rfl, rfl⟩
            refine ⟨trivial, ?_⟩
            refine zrun ?_ ?_
            refine x_split 57 rfl (fun q4 => ?_) (fun q4 => ?_) <;> (try simp at q4)
            · refine zrun ?_ ?_
              exact nw_meet true (by repeat (first | exact True.intro | refine ⟨rfl, ?_⟩)) ⟨rfl, (fun _ h => by rw [h.beg] at q4; cases q4), (fun e => by cases e)⟩
            · have qb := hX.get _ _ hgb
              refine zrun ?_ ?_
              refine x_load rfl rfl (hpmt (D.d7)) rfl trivial ?_
              refine zrun ?_ ?_
              refine x_load rfl rfl (hpmt qb) rfl trivial ?_
              refine x_conv_int rfl rfl rfl trivial ?_
              rw [wrap_i64 (by omega) (by omega)]
              refine zrun ?_ ?_
              exact nw_meet _ (by repeat (first | exact True.intro | refine ⟨rfl, ?_⟩)) ⟨rfl, (fun e h => by have := of_decide_eq_true e; have := h.last; omega), (fun e => ⟨by omega, hex, q4, by have := of_decide_eq_false e; omega⟩)⟩
      rintro e _ ⟨rfl, ht, hfl⟩
      cases e with
      | true =>
        rw [if_neg (ht rfl)] at hkr
        refine zrun ?_ ?_
        refine x_build (cs := zP) rfl rfl rfl ocp_nil rfl trivial ?_
        refine x_stores rfl rfl rfl rfl (by simp [zP, oneC, Value.oneCell']) (hB127) (by simp [zP]) trivial ?_
        intro Hz hBz hkz hsz
        refine ⟨trivial, ?_⟩
        refine zrun ?_ ?_
        exact cw_retc2 rfl rfl rfl rfl (hBz.cels 0 3 (by simp [putL, zP])) ⟨(hk07).step hkz (fun z hz (e : z = _) => by omega), .slice none 0 0, 0, 0, [], by rw [← hkr]; rfl, PoS.nil _ _, Nat.zero_le _, fun x hx => by rw [← hkr] at hx; cases hx⟩
      | false =>
        have hKC := hfl rfl
        rw [if_pos hKC] at hkr
        have hkl := hKC.long
        have hgb : c.key[k.length]? = some (c.key.getD k.length 0) := by
          rw [List.getD_eq_getElem?_getD, List.getElem?_eq_getElem hkl]; rfl
        have qb := hX.get _ _ hgb
        have hb256 := (c.key.getD k.length 0).toNat_lt
        have r71' := hk47.cel r71 (fun h => h)
        have hs47 := hk47.size
        refine zrun ?_ ?_
        refine x_load rfl rfl (hpmt (D.d7)) rfl trivial ?_
        refine zrun ?_ ?_
        refine x_load rfl rfl (hpmt qb) rfl trivial ?_
        refine x_conv_int rfl rfl rfl trivial ?_
        rw [wrap_i64 (by omega) (by omega)]
        refine zrun ?_ ?_
        refine x_load rfl rfl (hpmt (r71')) rfl trivial ?_
        refine zrun ?_ ?_
        refine x_callv rfl rfl rfl rfl trivial (hrd r.next H7 (by omega) (by omega) hk07 hC7 (by omega)) ?_
        rintro _ H8 ⟨hk8, vx, nx, dx, Px, rfl, hVx, hPxl, hxx⟩
        refine ⟨trivial, ?_⟩
        have hvx := isSl_oneC hVx.ps.sl
        have hgx := hgd r.next
        generalize rd r.next = ox at hkr hxx hgx ⊢
        have hs8 := hk8.size
        refine zrun ?_ ?_
        refine x_alloc rfl rfl trivial ?_
        intro H9 hn9
        refine ⟨trivial, ?_⟩
        refine x_stores rfl rfl rfl rfl (oc_cons hvx (oc_cons rfl (oc_cons rfl oc_nil))) hn9.blk (by simp) trivial ?_
        intro H10 hB17 hk10 hs10
        refine ⟨trivial, ?_⟩
        have hs9 := hn9.size
        have hk810 : Keep Non H8 H10 := keep_at hn9.keep hk10 (Nat.le_refl _)
        have hk710 := hk8.non_trans hk810
        have hk010 : Keep (fun z => z = sb v0 ∧ 0 < sc v0) H H10 := hk07.step hk710 (fun _ _ h => h.elim)
        have hB610 := hB67.keep hk710 (fun h => h)
        have hB710 := hB77.keep hk710 (fun h => h)
        have hB1210 := hB127.keep hk710 (fun h => h)
        refine zrun ?_ ?_
        cases ox with
        | none =>
          have hz : none = res := hkr
          refine zrun ?_ ?_
          refine x_build (cs := zP) rfl rfl rfl ocp_nil rfl trivial ?_
          refine x_stores rfl rfl rfl rfl (by simp [zP, oneC, Value.oneCell']) (hB1210) (by simp [zP]) trivial ?_
          intro Hz hBz hkz hsz
          refine ⟨trivial, ?_⟩
          refine zrun ?_ ?_
          exact cw_retc2 rfl rfl rfl rfl (hBz.cels 0 3 (by simp [putL, zP])) ⟨(hk010).step hkz (fun z hz (e : z = _) => by omega), .slice none 0 0, 0, 0, [], by rw [← hz]; rfl, PoS.nil _ _, Nat.zero_le _, fun x hx => by rw [← hz] at hx; cases hx⟩
        | some x =>
          obtain ⟨w1, w2, w3⟩ := hxx x rfl
          subst w1 w2 w3
          have hg := hgx x rfl
          have hgl := hg.lt; have hge := hg.le; have hgdp := hg.deep; have hgf := hg.few
          have hV10 := (hV7.mono (S' := fun z => (S0 z ∧ z ≠ H.size ∧ z ≠ H1.size ∧ z ≠ H2.size) ∧ z < H7.size) (fun z hz hl => ⟨hz, hl⟩)).keepN hk710
          have hVx10 := hVx.keepN hk810
          obtain ⟨q, hq, ho, hdq⟩ := id hV10.row
          obtain ⟨qx, hqx, hox, hdx⟩ := id hVx10.row
          have sVx := hox.sl
          have a0 : cel H10 H1.size 0 = some v := by rw [hB710.cel]; rfl
          have a2 : cel H10 H1.size 2 = some (.int .i64 ((r.deep : Int) + 1)) := by rw [hB710.cel]; rfl
          have x0 : cel H10 H8.size 0 = some vx := by rw [hB17.cel]; rfl
          have x1 : cel H10 H8.size 1 = some (.int .i64 x.next) := by rw [hB17.cel]; rfl
          have x2 : cel H10 H8.size 2 = some (.int .i64 x.deep) := by rw [hB17.cel]; rfl
          have hfv := hV10.fresh
          have hltv : 0 < sc v → sb v < H7.size := fun hc => (hfv hc).2
          have hn7 : ¬ (H1.size = sb v ∧ 0 < sc v) := fun e => (hfv e.2).1.2.2.1 e.1.symm
          have hn17 : ¬ (H8.size = sb v ∧ 0 < sc v) := fun e => by have := hltv e.2; omega
          have hmx : max ((r.deep : Int) + 1) (1 + (x.deep : Int)) = ((max r.deep x.deep : Nat) : Int) + 1 := by omega
          refine zrunc ?_ ?_
          refine cw_held (fun c => Keep ((fun (c : Nat) (z : Nat) => (z = sb v ∧ 0 < sc v) ∨ (c = 1 ∧ z = H1.size)) c) H10) ⟨[4, 14, 16, 18], [(1, 0), (3, 1), (6, 1), (8, 0), (10, 1)]⟩ (.op 0 (.op 1 (.op 2 (.op 3 (.op 5 (.op 6 (.op 7 (.op 8 (.op 9 (.op 10 (.op 11 (.op 12 (.op 4 (.op 13 (.op 14 (.op 15 (.op 16 (.op 17 (.op 18 (.nil)))))))))))))))))))) panicOk_body mixed (by kernel_rfl) ?_
          refine zhrun ?_ ?_
          refine x_load rfl rfl (hpmc rfl (fun _ hk => hk.cel a0 (fun e => e.elim hn7 (fun e => by cases e.1)))) rfl (okq_load rfl rfl (Keep.refl _ _)) ?_
          refine zhrun ?_ ?_
          refine x_load rfl rfl (hpmc rfl (fun _ hk => hk.cel x0 (fun e => e.elim hn17 (fun e => by have := e.2; omega)))) rfl (okq_load rfl rfl (Keep.refl _ _)) ?_
          refine zhrun ?_ ?_
          refine x_load rfl rfl (hpmc rfl (fun _ hk => hk.cel x1 (fun e => e.elim hn17 (fun e => by have := e.2; omega)))) rfl (okq_load rfl rfl (Keep.refl _ _)) ?_
          refine zhrun ?_ ?_
          refine x_load rfl rfl (hpmc rfl (fun _ hk => hk.cel a2 (fun e => e.elim hn7 (fun e => by cases e.1)))) rfl (okq_load rfl rfl (Keep.refl _ _)) ?_
          refine zhrun ?_ ?_
          refine x_load rfl rfl (hpmc rfl (fun _ hk => hk.cel x2 (fun e => e.elim hn17 (fun e => by have := e.2; omega)))) rfl (okq_load rfl rfl (Keep.refl _ _)) ?_
          refine zhrun ?_ ?_
          refine x_max rfl rfl rfl rfl (okq_reg rfl rfl) ?_
          rw [hmx]
          refine x_append (by rfl) (by rfl) (by rfl) rfl rfl rfl ho sVx (by rw [pcs_length, hqx.len]) hox.cels (pcs_oneC hqx (fun v b h => isSl_oneC h.1.sl)) (by omega) rfl ⟨rfl, rfl⟩ ?_
          intro v11 H11 hap
          refine ⟨okm_keepC hap.keep (fun c z hz e => .inl ⟨e.1, by have := e.2; omega⟩), ?_⟩
          have hs11 := hap.keep.size
          have hV11 : PoS (fun z => S0 z ∧ z ≠ H.size ∧ z ≠ H1.size ∧ z ≠ H2.size) H11 v11 (r.P ++ x.P) := PoS.app (S1 := fun z => (S0 z ∧ z ≠ H.size ∧ z ≠ H1.size ∧ z ≠ H2.size) ∧ z < H7.size) (S2 := fun z => H7.size ≤ z) hq ho hdq hfv (hqx.mono fun _ _ hb => ⟨hb.1, fun hc => (hb.2 hc).1⟩) hdx (fun z h1 h2 => by have := h1.2; omega) (fun z h => h.1) (fun z h => ⟨hSn z (by omega), by omega, by omega, by omega⟩) ⟨hSn _ (by omega), by omega, by omega, by omega⟩ hap
          have hov := isSl_oneC hV11.ps.sl
          have hk011 : Keep (fun z => z = sb v0 ∧ 0 < sc v0) H H11 := hk010.step hap.keep (fun z hz e => (hrow (by have := e.2; omega)).elim (fun h => ⟨e.1.trans h.1, h.2⟩) (fun h => by have := e.1; omega))
          have hB711 := hB710.keep hap.keep (fun e => hn7 ⟨e.1, by have := e.2; omega⟩)
          have hB611 := hB610.keep hap.keep (fun e => by have := (hfv (by have := e.2; omega)).1.2.1; exact this e.1.symm)
          have hB1211 := hB1210.keep hap.keep (fun e => by have := (hfv (by have := e.2; omega)).1.2.2.2; exact this e.1.symm)
          have hrow11 : 0 < sc v11 → (sb v11 = sb v0 ∧ 0 < sc v0) ∨ H3.size ≤ sb v11 := fun hc => by
            rcases hap.place with ⟨e1, _, e3, e4, _⟩ | ⟨e1, _⟩
            · rw [e1]; exact hrow (by omega)
            · right; omega
          refine zhrun ?_ ?_
          refine x_store rfl rfl rfl hov hB711 (by simp) ⟨rfl, rfl⟩ ?_
          intro H12 hB712 hk12 hs12
          refine ⟨okm_one hk12 (by kernel_rfl) rfl (fun z hz e => .inr ⟨rfl, e⟩), ?_⟩
          refine zhrun ?_ ?_
          refine x_store rfl rfl rfl rfl hB712 (by simp) ⟨rfl, rfl⟩ ?_
          intro H13 hB713 hk13 hs13
          refine ⟨okm_one hk13 (by kernel_rfl) rfl (fun z hz e => .inr ⟨rfl, e⟩), ?_⟩
          refine zhrun ?_ ?_
          refine x_store rfl rfl rfl rfl hB713 (by simp) ⟨rfl, rfl⟩ ?_
          intro H14 hB714 hk14 hs14
          refine ⟨okm_one hk14 (by kernel_rfl) rfl (fun z hz e => .inr ⟨rfl, e⟩), ?_⟩
          have hk1114 : Keep (· = H1.size) H11 H14 := (hk12.step hk13 (fun _ _ h => h)).step hk14 (fun _ _ h => h)
          refine zhrun ?_ ?_
          refine zrun ?_ ?_
          refine nw_round (j + 1, ((c.key.getD k.length 0).toNat : Int), ⟨r.P ++ x.P, x.next, max r.deep x.deep⟩, v11) (by repeat (first | exact True.intro | refine ⟨rfl, ?_⟩)) ⟨by simp only; omega, ?_, hpart.step hg, hk011.step hk1114 (fun z hz (e : z = _) => by omega), hB611.keep hk1114 (fun (e : _ = _) => by omega), hB714, hB1211.keep hk1114 (fun (e : _ = _) => by omega), hV11.keep hk1114 (fun z hz e => hz.2.2.1 e), by omega, hrow11⟩ (by simp only; omega)
          simp only
          rw [show m - (j + 1) = m' by omega]
          exact hkr
  · have hjm2 : j = m := by omega
    subst hjm2
    rw [Nat.sub_self] at hkr
    have hz : some r = res := hkr
    have hov := isSl_oneC hV4.ps.sl
    refine zrun ?_ ?_
    refine x_loads (cs := [v, .int .i64 r.next, .int .i64 ((r.deep : Int) + 1)]) rfl rfl rfl (hpmt (hB7.cels 0 3 (by simp))) rfl trivial ?_
    refine x_stores rfl rfl rfl rfl (oc_cons hov (oc_cons rfl (oc_cons rfl oc_nil))) hB12 (by simp [zP]) trivial ?_
    intro H5 hB5 hk5 hs5
    refine ⟨trivial, ?_⟩
    refine zrun ?_ ?_
    refine cw_retc2 rfl rfl rfl rfl (hB5.cels 0 3 (by simp [putL, zP])) ⟨hk4.step hk5 (fun z hz (e : z = _) => by omega), v, (r.next : Int), (r.deep : Int) + 1, r.P, by rw [← hz]; rfl, (hV4.keep hk5 (fun z hz e => hz.2.2.2 e)).mono (fun z hz _ => hz.1), by omega, fun x hx => ?_⟩
    rw [← hz] at hx
    injection hx with hx
    subst hx
    exact ⟨rfl, rfl, rfl⟩
end Go.Proofs.YtkdmcbacofafpaaDoor.X
