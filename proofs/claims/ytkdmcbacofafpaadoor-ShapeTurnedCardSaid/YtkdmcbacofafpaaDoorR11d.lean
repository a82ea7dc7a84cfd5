/- Chapter 11's document: what it reads of all cells of a tree of any kind. -/
import Derived.Test.YtkdmcbacofafpaaDoorR11c
namespace Go.Proofs.YtkdmcbacofafpaaDoor.X
open Go Go.Proofs
set_option linter.unusedVariables false
set_option linter.unusedSimpArgs false
set_option maxRecDepth 10000
set_option maxHeartbeats 4000000

/-- how deep a burst trie is that was read -/
def DeepB (i : Nat) (r : RD) : Prop := r.ok = true → 0 ≤ r.deep ∧ r.deep + i + 1 ≤ r.next
theorem kidsB_deep {rd : Nat → Bytes → RD} {l : List Cel} {w : Bytes} (h : ∀ n v, (rd n v).ok = true → 1 ≤ (rd n v).deep ∧ (rd n v).deep + n ≤ (rd n v).next) {i : Nat} : ∀ (m : Nat) {r r' : RD} {last : Int}, i < r.next → DeepB i r → r.ok = true → kidsB rd l w m r last = some r' → DeepB i r' := by
  intro m
  induction m with
  | zero => intro r r' last _ hr _ e; injection e with e; subst e; exact hr
  | succ m ih =>
    intro r r' last hi hr ho e
    unfold kidsB at e
    cases hd : l[r.next]? with
    | none => rw [hd] at e; cases e
    | some d =>
      rw [hd] at e
      simp only at e
      split at e
      · split at e
        · rename_i hok
          have h1 := hr ho
          have h2 := h _ _ hok
          refine ih (by show i < (rd _ _).next; omega) (fun _ => ?_) rfl e
          show 0 ≤ max r.deep (rd _ _).deep ∧ max r.deep (rd _ _).deep + i + 1 ≤ ((rd _ _).next : Int)
          omega
        · cases e
      · cases e
theorem readB_deep {l : List Cel} (hl : l.length ≤ 1000000) : ∀ (f : Nat) {i : Nat} {w : Bytes}, (readB f l i w).ok = true → 1 ≤ (readB f l i w).deep ∧ (readB f l i w).deep + i ≤ (readB f l i w).next := by
  intro f
  induction f with
  | zero => intro i w h; cases h
  | succ f ih =>
    intro i w h
    have hheld := readB_held (f + 1) l i w h
    revert hheld
    unfold readB at h ⊢
    cases hc : l[i]? with
    | none => rw [hc] at h; cases h
    | some c =>
      rw [hc] at h
      simp only at h ⊢
      split at h
      · rename_i h1
        rw [if_pos h1]
        split at h
        · rename_i h2
          rw [if_pos h2]
          intro _
          exact ⟨by show (1 : Int) ≤ 1; omega, by show (1 : Int) + i ≤ ((i + 1 : Nat) : Int); omega⟩
        · rename_i h2
          rw [if_neg h2]
          split at h
          · rename_i h3
            rw [if_pos h3]
            unfold nodeB at h ⊢
            cases hk : kidsB (readB f l) l w (min c.kids 257).toNat (beginB c i) (-1) with
            | none => rw [hk] at h; cases h
            | some r =>
              rw [hk] at h
              simp only at h ⊢
              unfold endB at h ⊢
              split at h
              · rename_i h4
                rw [if_pos h4]
                rintro ⟨g1, g2, _⟩
                have hd := kidsB_deep (fun n v => @ih n v) _ (Nat.lt_succ_self i) (fun _ => ⟨Int.le_refl 0, by show (0 : Int) + i + 1 ≤ ((i + 1 : Nat) : Int); omega⟩) rfl hk (by exact h)
                have g2 : r.next ≤ l.length := g2
                have e : IntKind.i64.wrap (r.deep + 1) = r.deep + 1 := wrap_i64 (by omega) (by omega)
                constructor
                · show 1 ≤ IntKind.i64.wrap (r.deep + 1); omega
                · show IntKind.i64.wrap (r.deep + 1) + i ≤ (r.next : Int); omega
              · cases h
          · cases h
      · cases h

theorem RdV.toK {B0 Bk B : Nat} {H : Heap} {v : Value} {P : List Pr} (h : RdV B0 B H v P) (hb : B0 ≤ B) : RdK B0 Bk B H v P := by
  obtain ⟨q, a, b⟩ := h.row
  exact ⟨⟨q, a, b.mono fun _ _ hk => ⟨hk.1, fun hne => ⟨(fun hc e => by have := h.fresh hc; have := hk.2 hne; omega), .inl (hk.2 hne)⟩⟩⟩, h.fresh⟩
theorem ReadO.toK {B0 : Nat} {o : Option PT} {H H' : Heap} {r : Value} (h : ReadO B0 o H r H') (hb : B0 ≤ H.size) : ReadK B0 o H r H' := by
  obtain ⟨k, v, n, d, P, e, hV, hl, hx⟩ := h
  exact ⟨k, v, n, d, P, e, hV.toK hb, hl, hx⟩
theorem ReadV.toK {B0 : Nat} {l : List Cel} {f i : Nat} {w : Bytes} {H H' : Heap} {r : Value} (hok : CelsOk l) (h : ReadV B0 (readB f l i w) H r H') (hb : B0 ≤ H.size) : ReadK B0 (rdB f l i w) H r H' := by
  obtain ⟨k, v, e, hV⟩ := h
  have hll := hok.len
  have hmm := hok.many
  have hP := readB_P f l i w
  have hd := @readB_deep l (by omega) f i w
  unfold rdB
  generalize readB f l i w = R at e hV hP hd ⊢
  refine ⟨k, v, R.next, R.deep, R.P, ?_, hV.toK hb, by omega, fun x hx => ?_⟩
  · rw [e]
    cases R.ok <;> rfl
  · split at hx
    · rename_i ho
      injection hx with hx
      subst hx
      have := hd ho
      exact ⟨rfl, by show R.deep = ((R.deep.toNat : Nat) : Int); omega, rfl⟩
    · cases hx

/-- what a call that reads answers, however much of it -/
def ReadM (B0 : Nat) (o : Option PT) (H : Heap) (r : Value) (H' : Heap) : Prop := Keep Non H H' ∧ ∃ v n d P, r = .agg [v, .int .i64 n, .int .i64 d, .bool o.isSome].toArray ∧ RdK B0 H.size H.size H' v P ∧ ∀ x, o = some x → n = (x.next : Int) ∧ d = (x.deep : Int) ∧ P = x.P
theorem ReadK.toM {B0 : Nat} {o : Option PT} {H H' : Heap} {r : Value} (h : ReadK B0 o H r H') : ReadM B0 o H r H' := by
  obtain ⟨k, v, n, d, P, e, hV, hl, hx⟩ := h
  exact ⟨k, v, n, d, P, e, hV, hx⟩
theorem ref11_ternary {l : List Cel} {vc : Value} {B0 : Nat} {H : Heap} (hok : CelsOk l) (hne : l ≠ []) (hC : CR B0 H vc l) (hB : B0 ≤ H.size) : Ret Tryd.prog 33 [vc] H (ReadM B0 (rdTs l) H) := by
  have sC := hC.sl
  have cC := sC.cap
  have hll := hok.len
  obtain ⟨c, hc⟩ : ∃ c, l[0]? = some c := by cases l with | nil => exact absurd rfl hne | cons c r => exact ⟨c, rfl⟩
  have hl0 : 0 < l.length := (List.getElem?_eq_some_iff.1 hc).1
  obtain ⟨R, hR⟩ : ∃ R, R = rdTs l := ⟨_, rfl⟩
  rw [← hR]
  unfold rdTs at hR
  rw [hc] at hR
  simp only at hR
  refine ret_of Tryd.func33 rfl rfl rfl rfl ?_
  intro w0
  refine zrun ?_ ?_
  refine x_alloc rfl rfl trivial ?_
  intro H1 hn1
  refine ⟨trivial, ?_⟩
  have hC1 := CR.keepN hC hn1.keep
  have hB6 : Blk H1 H.size zR := hn1.blk
  have hs1 := hn1.size
  have hk1 := hn1.keep
  obtain ⟨y, hy, hcels⟩ := Rd.cels hC1 encC_len hc
  have hyc := hy.1
  refine zrun ?_ ?_
  refine x_loads (cs := encC y) rfl rfl rfl (hpmt hcels) rfl trivial ?_
  refine x_alloc rfl rfl trivial ?_
  intro H2 hn2
  refine ⟨trivial, ?_⟩
  refine x_stores rfl rfl rfl rfl (CelR.oneC hy) hn2.blk (by simp [encC]) trivial ?_
  intro H3 hB7 hk3 hs3
  refine ⟨trivial, ?_⟩
  have hs2 := hn2.size
  have hk13 : Keep Non H1 H3 := keep_at hn2.keep hk3 (Nat.le_refl _)
  have hk03 := hk1.non_trans hk13
  have hC3 := CR.keepN hC hk03
  have hB63 : Blk H3 H.size zR := hB6.keep hk13 (fun h => h)
  have hy3 : CelR (fun z => z < B0) H3 y c := hy.step hk13 (fun _ _ h => h) (fun _ h => h)
  have D := celD_of (hB7 : Blk H3 H1.size (encC y)) hyc
  have sK := hy3.2.1.1.sl
  have sP := hy3.2.2.1.sl
  have cK := sK.cap
  have cP := sP.cap
  have hs03 := hk03.size
  refine zrun ?_ ?_
  refine x_load rfl rfl (hpmt (D.d0)) rfl trivial ?_
  refine zrun ?_ ?_
  refine cw_cond rfl (fun g0 => ?_) (fun g0 => ?_) <;> (try simp at g0)
  · rw [if_neg g0] at hR
    refine zrun ?_ ?_
    refine x_call rfl rfl rfl trivial (ref11_Tern hok (l.length + 1) (i := 0) (lo := -1) (hi := 256) (by omega) (by omega) hC3 (Bs.nil H3) (by omega)) ?_
    rintro _ H4 ⟨hk4, v, n, d, P, rfl, hV, hPl, hx⟩
    refine ⟨trivial, ?_⟩
    rw [← hR] at hx ⊢
    have hov := isSl_oneC hV.ps.sl
    have hB64 := hB63.keep hk4 (fun h => h)
    refine zrun ?_ ?_
    refine x_stores rfl rfl rfl rfl (oc_cons hov (oc_cons rfl (oc_cons rfl (oc_cons rfl oc_nil)))) hB64 (by simp [zR]) trivial ?_
    intro H5 hB65 hk5 hs5
    refine ⟨trivial, ?_⟩
    refine zrun ?_ ?_
    refine cw_retc rfl rfl rfl (hB65.cels 0 4 (by simp [putL, zR])) ⟨keep_at (hk03.non_trans hk4) hk5 (Nat.le_refl _), v, n, d, P, rfl, ?_, hx⟩
    exact ((hV.mono hs03 hs03).keep hk5 (fun hc e => by have := hV.fresh hc; have e : sb v = H.size := e; omega) (fun kk bb hkk hne _ _ => bs_ne_row (n := 0) hkk hne hB64 (Bs.nil H4).sl))
  · rw [if_pos g0] at hR
    refine zrunc ?_ ?_
    refine cw_cut (fun e : Bool => [(0, vc), (2, ptr H.size 0), (3, ptr H1.size 0), (47, .bool e)]) (fun e H' => H3 = H' ∧ (e = true → ¬ (c.at_ = 0 ∧ c.byte = 0 ∧ c.full = false ∧ c.kids = 0 ∧ c.count = 1 ∧ c.key = [] ∧ c.pairs = [])) ∧ (e = false → (c.at_ = 0 ∧ c.byte = 0 ∧ c.full = false ∧ c.kids = 0 ∧ c.count = 1 ∧ c.key = [] ∧ c.pairs = []))) ?_ ?_
    · refine zrun ?_ ?_
      refine x_load rfl rfl (hpmt (D.d1)) rfl trivial ?_
      refine zrun ?_ ?_
      refine x_split 17 rfl (fun g1 => ?_) (fun g1 => ?_) <;> (try simp at g1)
      · refine zrun ?_ ?_
        exact nw_meet true (by repeat (first | exact True.intro | refine ⟨rfl, ?_⟩)) ⟨rfl, (fun _ h => g1 h.1), (fun e => by cases e)⟩
      · refine zrun ?_ ?_
        refine x_load rfl rfl (hpmt (D.d4)) rfl trivial ?_
        refine zrun ?_ ?_
        refine x_split 22 rfl (fun g2 => ?_) (fun g2 => ?_) <;> (try simp at g2)
        · refine zrun ?_ ?_
          exact nw_meet true (by repeat (first | exact True.intro | refine ⟨rfl, ?_⟩)) ⟨rfl, (fun _ h => by rw [h.2.1] at g2; exact g2 rfl), (fun e => by cases e)⟩
        · refine zrun ?_ ?_
          refine x_load rfl rfl (hpmt (D.d5)) rfl trivial ?_
          refine zrun ?_ ?_
          refine x_split 26 rfl (fun g3 => ?_) (fun g3 => ?_) <;> (try simp at g3)
          · refine zrun ?_ ?_
            exact nw_meet true (by repeat (first | exact True.intro | refine ⟨rfl, ?_⟩)) ⟨rfl, (fun _ h => by rw [h.2.2.1] at g3; cases g3), (fun e => by cases e)⟩
          · refine zrun ?_ ?_
            refine x_load rfl rfl (hpmt (D.d3)) rfl trivial ?_
            refine zrun ?_ ?_
            refine x_split 31 rfl (fun g4 => ?_) (fun g4 => ?_) <;> (try simp at g4)
            · refine zrun ?_ ?_
              exact nw_meet true (by repeat (first | exact True.intro | refine ⟨rfl, ?_⟩)) ⟨rfl, (fun _ h => g4 h.2.2.2.1), (fun e => by cases e)⟩
            · refine zrun ?_ ?_
              refine x_load rfl rfl (hpmt (D.d2)) rfl trivial ?_
              refine zrun ?_ ?_
              refine x_split 36 rfl (fun g5 => ?_) (fun g5 => ?_) <;> (try simp at g5)
              · refine zrun ?_ ?_
                exact nw_meet true (by repeat (first | exact True.intro | refine ⟨rfl, ?_⟩)) ⟨rfl, (fun _ h => g5 h.2.2.2.2.1), (fun e => by cases e)⟩
              · refine zrun ?_ ?_
                refine x_load rfl rfl (hpmt (D.d7)) rfl trivial ?_
                refine zrun ?_ ?_
                refine x_split 42 rfl (fun g6 => ?_) (fun g6 => ?_) <;> (try simp at g6)
                · refine zrun ?_ ?_
                  exact nw_meet true (by repeat (first | exact True.intro | refine ⟨rfl, ?_⟩)) ⟨rfl, (fun _ h => by rw [h.2.2.2.2.2.1] at g6; simp at g6), (fun e => by cases e)⟩
                · have hk0 : c.key = [] := by first | exact g6 | exact List.length_eq_zero_iff.1 (by omega)
                  refine zrun ?_ ?_
                  refine x_load rfl rfl (hpmt (D.d8)) rfl trivial ?_
                  refine zrun ?_ ?_
                  refine nw_meet _ (by repeat (first | exact True.intro | refine ⟨rfl, ?_⟩)) ⟨rfl, (fun e h => by rw [h.2.2.2.2.2.2] at e; simp at e), (fun e => ⟨g1, UInt8.toNat_inj.1 (by simpa using g2), by simpa using g3, g4, g5, hk0, ?_⟩)⟩
                  have := of_decide_eq_false e
                  exact List.length_eq_zero_iff.1 (by omega)
    rintro e _ ⟨rfl, ht, hfl⟩
    cases e with
    | true =>
      have hz : R = none := by rw [hR, if_neg (ht rfl)]
      refine zrun ?_ ?_
      refine x_build (cs := [.slice none 0 0, .int .i64 0, .int .i64 0, .bool false]) rfl rfl rfl ocp_nil rfl trivial ?_
      refine x_stores rfl rfl rfl rfl (by simp [oneC, Value.oneCell']) (hB63) (by simp [zR]) trivial ?_
      intro Hz hBz hkz hsz
      refine ⟨trivial, ?_⟩
      refine zrun ?_ ?_
      exact cw_retc rfl rfl rfl (hBz.cels 0 4 (by simp [putL, zR])) ⟨keep_at (hk03) hkz (Nat.le_refl _), .slice none 0 0, 0, 0, [], by rw [hz]; rfl, RdK.nil _ _ _ _, fun x hx => by rw [hz] at hx; cases hx⟩
    | false =>
      rw [if_pos (hfl rfl)] at hR
      refine zrun ?_ ?_
      refine x_load rfl rfl (hpmt (D.d6)) rfl trivial ?_
      refine zrun ?_ ?_
      refine x_build (cs := [.slice none 0 0, .int .u64 c.val]) rfl rfl rfl (ocp_cons rfl ocp_nil) rfl trivial ?_
      refine x_buildSliceS1 (by rfl) rfl rfl (by omega) (by rfl) rfl trivial ?_
      intro H4 hn4
      refine ⟨trivial, ?_⟩
      have hs4 := hn4.size
      have hB64 := hB63.keep (S := Non) hn4.keep (fun h => h)
      have hk04 := hn4.old hk03
      obtain ⟨v1, hv1⟩ : ∃ v1 : Value, v1 = .slice (some ⟨H3.size, 0, none⟩) 1 1 := ⟨_, rfl⟩
      have hV4 : RdK B0 H.size H3.size H4 v1 [([], c.val)] := by
        rw [hv1]
        exact ⟨⟨[(.slice none 0 0, c.val)], Own.new (s := 2) (n := 1) hn4 rfl (by omega), Pk.one (p := ([], c.val)) ⟨Bs.nil H4, (fun h => absurd rfl h)⟩⟩, fun _ => Nat.le_refl _⟩
      rw [← hv1]
      have hov1 := isSl_oneC hV4.ps.sl
      refine zrun ?_ ?_
      refine x_build (cs := [v1, .int .i64 1, .int .i64 1, .bool true]) rfl rfl rfl (ocp_cons hov1 (ocp_cons rfl (ocp_cons rfl (ocp_cons rfl ocp_nil)))) rfl trivial ?_
      refine x_alloc rfl rfl trivial ?_
      intro H5 hn5
      refine ⟨trivial, ?_⟩
      have hs5 := hn5.size
      refine x_stores rfl rfl rfl rfl (oc_cons hov1 (oc_cons rfl (oc_cons rfl (oc_cons rfl oc_nil)))) hn5.blk (by simp) trivial ?_
      intro H6 hB10 hk6 hs6
      refine ⟨trivial, ?_⟩
      have hk46 : Keep Non H4 H6 := keep_at hn5.keep hk6 (Nat.le_refl _)
      have hk06 := hk04.non_trans hk46
      have hV6 := hV4.keepN hk46
      have hB66 := hB64.keep hk46 (fun h => h)
      have hB10 : Blk H6 H4.size [v1, .int .i64 (1 : Nat), .int .i64 (1 : Nat), .bool true] := hB10
      have hltv : 0 < sc v1 → sb v1 < H4.size := fun hc => let ⟨_, o, _⟩ := hV4.row; o.lt hc
      refine zrun ?_ ?_
      refine cw_cut (fun _ : Unit => [(2, ptr H.size 0), (4, ptr H4.size 0)]) (fun _ H' => Keep Non H H' ∧ Blk H' H.size zR ∧ ∃ v n d P, Blk H' H4.size [v, .int .i64 n, .int .i64 d, .bool R.isSome] ∧ RdK B0 H.size H1.size H' v P ∧ ∀ x, R = some x → n = (x.next : Int) ∧ d = (x.deep : Int) ∧ P = x.P) ?_ ?_
      · refine cw_cond rfl (fun g7 => ?_) (fun g7 => ?_) <;> (try simp at g7)
        · rw [if_neg (fun e => by omega)] at hR
          have hC6 := CR.keepN hC hk06
          refine zrun ?_ ?_
          refine x_call rfl rfl rfl trivial (ref11_Tern hok (l.length + 1) (i := 1) (lo := -1) (hi := 256) (by omega) (by omega) hC6 (Bs.nil H6) (by have := hk06.size; omega)) ?_
          rintro _ Ha ⟨hka, vx, nx, dx, Px, rfl, hVx, hPxl, hxx⟩
          refine ⟨trivial, ?_⟩
          have hgx := @rdT_good (l.length + 1) l 1 [] (-1) 256
          generalize rdT (l.length + 1) l 1 [] (-1) 256 = ox at hR hxx hgx ⊢
          have hvx := isSl_oneC hVx.ps.sl
          have hsa := hka.size
          refine zrun ?_ ?_
          refine x_alloc rfl rfl trivial ?_
          intro Hb hnb
          refine ⟨trivial, ?_⟩
          refine x_stores rfl rfl rfl rfl (oc_cons hvx (oc_cons rfl (oc_cons rfl (oc_cons rfl oc_nil)))) hnb.blk (by simp) trivial ?_
          intro Hd hBd hkd hsd
          refine ⟨trivial, ?_⟩
          have hsb := hnb.size
          have hkad : Keep Non Ha Hd := keep_at hnb.keep hkd (Nat.le_refl _)
          have hk6d := hka.non_trans hkad
          have hk0d := hk06.non_trans hk6d
          have x0 : cel Hd Ha.size 0 = some vx := by rw [hBd.cel]; rfl
          have x1 : cel Hd Ha.size 1 = some (.int .i64 nx) := by rw [hBd.cel]; rfl
          have x2 : cel Hd Ha.size 2 = some (.int .i64 dx) := by rw [hBd.cel]; rfl
          have x3 : cel Hd Ha.size 3 = some (.bool ox.isSome) := by rw [hBd.cel]; rfl
          have hB10d := hB10.keep hk6d (fun h => h)
          have y0 : cel Hd H4.size 0 = some v1 := by rw [hB10d.cel]; rfl
          have hB6d := hB66.keep hk6d (fun h => h)
          have hVd := hV6.keepN hk6d
          have hVxd := hVx.keepN hkad
          obtain ⟨q, hoq, hq⟩ := id hVd.row
          obtain ⟨qx, hoqx, hqx⟩ := id hVxd.row
          have hfv := hVd.fresh
          have sVx := hVxd.ps.sl
          have hkrd := Keep.refl (fun z => z = sb v1 ∧ 0 < sc v1) Hd
          have hv14 : ¬ (H4.size = sb v1 ∧ 0 < sc v1) := fun e => by have := hltv e.2; omega
          have hvx' : ¬ (Ha.size = sb v1 ∧ 0 < sc v1) := fun e => by have := hltv e.2; omega
          have hv0 : ¬ (H.size = sb v1 ∧ 0 < sc v1) := fun e => by have := hfv e.2; omega
          refine zrunc ?_ ?_
          refine cw_held (fun _ => Keep (fun z => z = sb v1 ∧ 0 < sc v1) Hd) ⟨[4, 13], [(1, 0), (3, 0), (6, 0), (8, 0), (11, 0)]⟩ (.op 0 (.op 1 (.op 2 (.op 3 (.op 5 (.op 6 (.op 7 (.op 8 (.op 9 (.op 10 (.op 11 (.op 4 (.op 12 (.op 13 (.nil))))))))))))))) panicOk_body mixed (by kernel_rfl) ?_
          refine zhrun ?_ ?_
          refine x_load rfl rfl (hpmk rfl (fun _ hk => hk.cel y0 hv14)) rfl (okq_load rfl rfl (by assumption)) ?_
          refine zhrun ?_ ?_
          refine x_load rfl rfl (hpmk rfl (fun _ hk => hk.cel x0 hvx')) rfl (okq_load rfl rfl (by assumption)) ?_
          refine zhrun ?_ ?_
          refine x_load rfl rfl (hpmk rfl (fun _ hk => hk.cel x1 hvx')) rfl (okq_load rfl rfl (by assumption)) ?_
          refine zhrun ?_ ?_
          refine x_load rfl rfl (hpmk rfl (fun _ hk => hk.cel x2 hvx')) rfl (okq_load rfl rfl (by assumption)) ?_
          refine zhrun ?_ ?_
          refine x_max rfl rfl rfl rfl (okq_reg rfl rfl) ?_
          refine zhrun ?_ ?_
          refine x_load rfl rfl (hpmk rfl (fun _ hk => hk.cel x3 hvx')) rfl (okq_load rfl rfl (by assumption)) ?_
          refine zhrun ?_ ?_
          refine x_append (by rfl) (by rfl) (by rfl) rfl rfl rfl hoq sVx (by rw [pcs_length, hqx.len]) hoqx.cels (pcs_oneC hqx (fun v b h => isSl_oneC h.1.sl)) (by simp; omega) rfl ⟨rfl, rfl⟩ ?_
          intro v9 He hap
          refine ⟨okm_keep hap.keep (fun z hz e => ⟨e.1, by have := e.2; simp at this; omega⟩), ?_⟩
          have hse := hap.keep.size
          have hne9 : ∀ z, ¬ (z = sb v1 ∧ 0 < sc v1) → ¬ (z = sb v1 ∧ [(([] : Bytes), c.val)].length + Px.length ≤ sc v1 ∧ 0 < Px.length) := fun z h e => h ⟨e.1, by have := e.2; simp at this; omega⟩
          have hk0e : Keep Non H He := hk0d.old hap.keep (fun z hz e => by have := hfv (by have := e.2; simp at this; omega); have := e.1; omega)
          have hBde := hB10d.keep hap.keep (hne9 _ hv14)
          have hB6e := hB6d.keep hap.keep (hne9 _ hv0)
          have hVe : RdK B0 H.size H3.size He v9 ([([], c.val)] ++ Px) := RdK.app hoq hq hfv (hqx.mono fun kk b hb => ⟨hb.1, fun hne => ⟨(fun hc e => by have := hfv hc; have := hltv hc; rcases (hb.2 hne).2 with h | h <;> omega), (hb.2 hne).2.imp (fun h => h) (fun h => by have := hk06.size; omega)⟩⟩) hap (by omega)
          have hov := isSl_oneC hVe.ps.sl
          refine zhrun ?_ ?_
          refine x_build (cs := [v9, .int .i64 nx, .int .i64 (max 1 dx), .bool ox.isSome]) rfl rfl rfl (ocp_cons hov (ocp_cons rfl (ocp_cons rfl (ocp_cons rfl ocp_nil)))) rfl (okq_reg rfl rfl) ?_
          refine x_stores rfl rfl rfl rfl (oc_cons hov (oc_cons rfl (oc_cons rfl (oc_cons rfl oc_nil)))) hBde (by simp) ⟨rfl, rfl⟩ ?_
          intro Hg hBg hkg hsg
          refine ⟨okm_free (fun c => by cases c <;> kernel_rfl), ?_⟩
          have hltv9 : 0 < sc v9 → sb v9 ≠ H4.size := fun hc e => by
            rcases hap.place with ⟨e1, _, e3, e4, _⟩ | ⟨e1, _⟩
            · have := hltv (by simp at e3 e4; omega); omega
            · omega
          refine zhrun ?_ ?_
          refine zrun ?_ ?_
          refine nw_meet () (by repeat (first | exact True.intro | refine ⟨rfl, ?_⟩)) ⟨keep_at hk0e hkg (by omega), hB6e.keep hkg (fun e => by have e : H.size = H4.size := e; omega), v9, nx, max 1 dx, [([], c.val)] ++ Px, ?_, (hVe.mono (Nat.le_refl _) (by omega)).keep hkg (fun hc e => hltv9 hc e) (fun kk bb hkk hne _ _ => bs_ne_row (n := 1) hkk hne hBde hVd.ps.sl), fun x hx => ?_⟩
          · rw [hR]; cases ox <;> exact hBg
          · rw [hR] at hx
            cases ox with
            | none => cases hx
            | some x' =>
              obtain ⟨w1, w2, w3⟩ := hxx x' rfl
              injection hx with hx
              subst hx w1 w2 w3
              exact ⟨rfl, by show max 1 (x'.deep : Int) = ((max 1 x'.deep : Nat) : Int); omega, rfl⟩
        · rw [if_pos (by omega)] at hR
          refine zrun ?_ ?_
          exact nw_meet () (by repeat (first | exact True.intro | refine ⟨rfl, ?_⟩)) ⟨hk06, hB66, v1, 1, 1, [([], c.val)], by rw [hR]; exact hB10, hV6.mono (Nat.le_refl _) (by omega), fun x hx => by rw [hR] at hx; injection hx with hx; subst hx; exact ⟨rfl, rfl, rfl⟩⟩
      rintro _ H7 ⟨hk07, hB67, v, n, d, P, hBr, hV7, hx7⟩
      have hov := isSl_oneC hV7.ps.sl
      refine zrun ?_ ?_
      refine x_loads (cs := [v, .int .i64 n, .int .i64 d, .bool R.isSome]) rfl rfl rfl (hpmt (hBr.cels 0 4 (by simp))) rfl trivial ?_
      refine x_stores rfl rfl rfl rfl (oc_cons hov (oc_cons rfl (oc_cons rfl (oc_cons rfl oc_nil)))) hB67 (by simp [zR]) trivial ?_
      intro H9 hB9 hk9 hs9
      refine ⟨trivial, ?_⟩
      refine zrun ?_ ?_
      refine cw_retc rfl rfl rfl (hB9.cels 0 4 (by simp [putL, zR])) ⟨keep_at hk07 hk9 (Nat.le_refl _), v, n, d, P, rfl, ?_, hx7⟩
      exact (hV7.mono (Nat.le_refl _) (by omega)).keep hk9 (fun hc e => by have := hV7.fresh hc; have e : sb v = H.size := e; omega) (fun kk bb hkk hne _ _ => bs_ne_row (n := 0) hkk hne hB67 (Bs.nil H7).sl)
end Go.Proofs.YtkdmcbacofafpaaDoor.X
