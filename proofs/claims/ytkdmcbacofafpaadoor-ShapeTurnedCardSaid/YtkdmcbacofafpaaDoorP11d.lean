/- Chapter 11, the program: burst tries. -/
import Derived.Test.YtkdmcbacofafpaaDoorP11c
namespace Go.Proofs.YtkdmcbacofafpaaDoor.X
open Go Go.Proofs
set_option linter.unusedVariables false
set_option linter.unusedSimpArgs false
set_option maxRecDepth 10000
set_option maxHeartbeats 4000000

theorem kidsX_part {exact : Bool} {rd : Nat → Option PT} {l : List Cel} {k : Bytes} {i : Nat} (h : ∀ n x, rd n = some x → Good8 l n x) : ∀ (m : Nat) {r r' : PT} {last : Int}, Part8 l i r → kidsX exact rd l k m r last = some r' → Part8 l i r' := by
  intro m
  induction m with
  | zero => intro r r' last hp e; injection e with e; subst e; exact hp
  | succ m ih =>
    intro r r' last hp e
    cases hd : l[r.next]? with
    | none => rw [kidsX_none hd] at e; cases e
    | some d =>
      rw [kidsX_some hd] at e
      split at e
      · split at e
        · cases e
        · rename_i x hx
          exact ih (hp.step (h _ x hx)) e
      · cases e
theorem begR_part8 {l : List Cel} {i : Nat} {c : Cel} (hc : l[i]? = some c) : Part8 l i (begR c i) := by
  have hi := (List.getElem?_eq_some_iff.1 hc).1
  refine ⟨Nat.lt_succ_self i, hi, by show 0 + i + 1 ≤ i + 1; omega, ?_⟩
  show (if c.full then [(c.key, c.val)] else []).length + 8 * i ≤ 8 * (i + 1)
  cases c.full <;> simp <;> omega
theorem rdBk_good {l : List Cel} (hok : CelsOk l) : ∀ (f : Nat) {n : Nat} {x : PT}, rdBk f l n = some x → Good8 l n x := by
  intro f
  induction f with
  | zero =>
    intro n x h
    unfold rdBk at h
    split at h
    · cases h
    · cases h
  | succ f ih =>
    intro n x h
    have hll := hok.len
    cases hc : l[n]? with
    | none => rw [rdBk_none hc] at h; cases h
    | some c =>
      have hi := (List.getElem?_eq_some_iff.1 hc).1
      by_cases hk : c.kind = 11
      · rw [rdBk_shelf hc hk] at h
        split at h
        · rename_i h1
          injection h with h
          subst h
          have h2 := h1.2.2
          unfold okB at h2
          have h3 := (okS_of (Bool.and_eq_true_iff.1 h2).1).most
          exact ⟨Nat.lt_succ_self n, hi, Nat.le_refl 1, by show 1 + n ≤ n + 1; omega, by show c.pairs.length + 8 * n ≤ 8 * (n + 1); omega⟩
        · cases h
      · rw [rdBk_node (by omega) hc hk] at h
        split at h
        · obtain ⟨r, hr, h⟩ := Option.bind_eq_some_iff.1 h
          have hp := kidsX_part (fun n x hx => ih hx) _ (begR_part8 hc) hr
          split at h
          · injection h with h
            subst h
            have h1 := hp.lt; have h2 := hp.deep; have h3 := hp.few
            exact ⟨hp.lt, hp.le, by show 1 ≤ r.deep + 1; omega, by show r.deep + 1 + n ≤ r.next; omega, h3⟩
          · cases h
        · cases h
theorem bytes_Clone {va : Value} {la : Bytes} {H : Heap} (hA : Bs H va la) (hla : la.length ≤ 140737488355328) : Ret Tryd.prog 62 [va] H (fun v H' => Keep Non H H' ∧ Own 1 H' v la.length (bvs la) ∧ Fresh H v) := by
  have sA := hA.sl
  have cA := sA.cap
  refine ret_of Tryd.func62 rfl rfl rfl rfl ?_
  intro w0
  refine zrun ?_ ?_
  refine x_sleqn rfl rfl rfl (by assumption) rfl trivial ?_
  refine zrun ?_ ?_
  refine cw_cond rfl (fun h1 => ?_) (fun h1 => ?_) <;> (try simp at h1)
  · obtain ⟨rfl, h0⟩ := snil_len sA h1
    have : la = [] := by simpa using h0
    subst this
    refine zrun ?_ ?_
    exact cw_ret1 rfl rfl ⟨Keep.refl _ _, Own.nil _ _, Fresh.nil _⟩
  · refine zrun ?_ ?_
    refine x_buildSlice rfl rfl rfl rfl (by omega) (by simp) rfl trivial ?_
    intro H1 hn
    refine ⟨trivial, ?_⟩
    refine zrun ?_ ?_
    have hO : Own 1 H1 (.slice (some ⟨H.size, 0, none⟩) 0 0) 0 [] := Own.new hn rfl (by omega)
    refine x_append (by rfl) (by rfl) (by rfl) rfl rfl rfl hO sA (by rw [bvs_length, Nat.mul_one]) (hA.keepN hn.keep).at_ (bvs_oneC la) (by omega) rfl trivial ?_
    intro v' H2 hap
    refine ⟨trivial, ?_⟩
    refine zrun ?_ ?_
    refine cw_ret1 rfl rfl ⟨hap.old (Fresh.mk_ _ _ _) hn.keep, ?_, hap.fresh (Fresh.mk_ _ _ _) (by have := hn.size; omega)⟩
    simpa using hap.own

theorem shp_burst {l : List Cel} {vc : Value} {B0 : Nat} (hok : CelsOk l) (hv : l ≠ [] → sb vc < B0) : ∀ (f : Nat) {i : Nat} {H : Heap}, 0 < f → l.length < i + f → i ≤ l.length → CR B0 H vc l → B0 ≤ H.size →
    Ret Tryd.prog 43 [.agg [vc].toArray, .int .i64 i] H (PrgO (rdBk f l i) H) := by
  intro f
  induction f with
  | zero =>
    intro i H hf0
    omega
  | succ f ih =>
    intro i H hf0 hf hil hC hB
    have sC := hC.sl
    have hll := hok.len
    obtain ⟨R, hR⟩ : ∃ R, R = rdBk (f + 1) l i := ⟨_, rfl⟩
    rw [← hR]
    refine ret_of Tryd.func43 rfl rfl rfl rfl ?_
    intro w0
    refine zrun ?_ ?_
    refine x_box (cs := [vc]) rfl rfl rfl trivial ?_
    intro H1 hn1
    refine ⟨trivial, ?_⟩
    refine x_alloc rfl rfl trivial ?_
    intro H2 hn2
    refine ⟨trivial, ?_⟩
    have hs1 := hn1.size
    have hs2 := hn2.size
    have hk2 := hn2.old hn1.keep
    have hC2 := CR.keepN hC hk2
    have hBr2 : Blk H2 H.size [vc] := (hn1.blk : Blk H1 H.size [vc]).keep hn2.keep (fun h => h)
    have hBo2 : Blk H2 H1.size zP := hn2.blk
    refine zrun ?_ ?_
    refine x_loads (cs := [vc]) rfl rfl rfl (hpmt (hBr2.cels 0 1 (by simp))) rfl trivial ?_
    refine zrun ?_ ?_
    refine x_call rfl rfl rfl trivial (shp_cell (i := i) hC2 (by omega)) ?_
    rintro _ H3 ⟨hk3, y, c, rfl, hy3, hcd⟩
    refine ⟨trivial, ?_⟩
    have hs3 := hk3.size
    refine zrun ?_ ?_
    refine x_alloc rfl rfl trivial ?_
    intro H4 hn4
    refine ⟨trivial, ?_⟩
    have hs4 := hn4.size
    refine x_stores rfl rfl rfl rfl (CelR.oneC hy3) hn4.blk (by simp [encC]) trivial ?_
    intro H5 hBc5 hk5 hs5
    refine ⟨trivial, ?_⟩
    have hk35 : Keep Non H3 H5 := keep_at hn4.keep hk5 (Nat.le_refl _)
    have hk25 := hk3.non_trans hk35
    have hk05 := hk2.non_trans hk25
    have hy5 := hy3.keepN hk35
    have hC5 := CR.keepN hC hk05
    have hBr5 := hBr2.keep hk25 (fun h => h)
    have hBo5 := hBo2.keep hk25 (fun h => h)
    have hBc5 : Blk H5 H3.size (encC y) := hBc5
    have D := celD_of hBc5 hy5.1
    have sK := hy5.2.1.1.sl
    have sP := hy5.2.2.1.sl
    have cK := sK.cap
    have cP := sP.cap
    have hs05 := hk05.size
    refine zrun ?_ ?_
    cases hc : l[i]? with
    | none =>
      have hz : none = R := by rw [hR, rdBk_none hc]
      refine zrun ?_ ?_
      refine x_build (cs := zP) rfl rfl rfl ocp_nil rfl trivial ?_
      refine x_stores rfl rfl rfl rfl (by simp [zP, oneC, Value.oneCell']) (hBo5) (by simp [zP]) trivial ?_
      intro Hz hBz hkz hsz
      refine ⟨trivial, ?_⟩
      refine zrun ?_ ?_
      exact cw_retc2 rfl rfl rfl rfl (hBz.cels 0 3 (by simp [putL, zP])) ⟨(hk05).step hkz (fun z hz (e : z = _) => by omega), .slice none 0 0, 0, 0, [], by rw [← hz]; rfl, PoS.nil _ _, Nat.zero_le _, fun x hx => by rw [← hz] at hx; cases hx⟩
    | some d =>
      have hcd' := hcd d hc
      subst hcd'
      have hcm := List.mem_of_getElem? hc
      have hilt := (List.getElem?_eq_some_iff.1 hc).1
      refine zrun ?_ ?_
      refine x_load rfl rfl (hpmt (D.d0)) rfl trivial ?_
      refine zrun ?_ ?_
      refine cw_cond rfl (fun hk11 => ?_) (fun hk11 => ?_) <;> (try simp at hk11)
      · rw [rdBk_shelf hc hk11] at hR
        have hPs := hy5.2.2.1.ps (fun _ _ h => h.1)
        have hpl : ∀ p ∈ c.pairs, p.1.length ≤ 1000 := hok.pair c hcm
        have hml : c.pairs.length ≤ 1000000 := by
          have h1 := manys_take hc
          have h2 := manys_le l (i + 1)
          have h3 : c.many = c.pairs.length + (if c.full then 1 else 0) := rfl
          have h4 := hok.many
          omega
        refine zrun ?_ ?_
        refine x_build (cs := [.slice none 0 0, .int .i64 (i + 1), .int .i64 1]) rfl rfl rfl (ocp_cons rfl (ocp_cons rfl ocp_nil)) rfl trivial ?_
        refine x_alloc rfl rfl trivial ?_
        intro H6 hn6
        refine ⟨trivial, ?_⟩
        refine x_stores rfl rfl rfl rfl (by simp [oneC, Value.oneCell']) hn6.blk (by simp) trivial ?_
        intro H7 hB87 hk7 hs7
        refine ⟨trivial, ?_⟩
        have hs6 := hn6.size
        have hk57 : Keep Non H5 H7 := keep_at hn6.keep hk7 (Nat.le_refl _)
        have D7 := D.keepN hk57
        refine zrun ?_ ?_
        refine x_load rfl rfl (hpmt (D7.d8)) rfl trivial ?_
        refine zrun ?_ ?_
        refine cw_loop (fun s : Nat × Value => [(2, ptr H.size 0), (4, ptr H1.size 0), (5, .bool false), (6, ptr H3.size 0), (8, ptr H5.size 0), (29, y.2.2), (30, .int .i64 c.pairs.length), (31, .int .i64 s.1)]) (fun s H' => s.1 ≤ c.pairs.length ∧ (∀ p ∈ c.pairs.take s.1, p.1.length ≤ 65535 ∧ begins p.1 c.key = true) ∧ Keep Non H5 H' ∧ H7.size ≤ H'.size ∧ Blk H' H5.size [s.2, .int .i64 ((i : Int) + 1), .int .i64 1] ∧ PoS (fun z => H7.size ≤ z) H' s.2 (c.pairs.take s.1)) (fun s => c.pairs.length - s.1) (0, .slice none 0 0) (by repeat (first | exact True.intro | refine ⟨rfl, ?_⟩)) ⟨Nat.zero_le _, (fun p hp => by simp at hp), hk57, Nat.le_refl _, hB87, PoS.nil _ _⟩ ?_
        rintro ⟨j, v⟩ H8 ⟨hj, hall, hk58, hs78, hB8, hV8⟩
        dsimp only at hj hall hB8 hV8 ⊢
        have hk08 := hk05.non_trans hk58
        have hBo8 := hBo5.keep hk58 (fun h => h)
        have D8 := D.keepN hk58
        have hs58 := hk58.size
        have hov := isSl_oneC hV8.ps.sl
        refine zrun ?_ ?_
        refine cw_cond rfl (fun hjl => ?_) (fun hjl => ?_) <;> (try simp at hjl)
        · obtain ⟨p, hp⟩ := getp (l := c.pairs) hjl
          have hpm := List.mem_of_getElem? hp
          have hPs8 := hPs.keepN hk58
          obtain ⟨kk, a1, a2, a3⟩ := hPs8.at_ j p hp
          have sPP := sP
          have skk := a3.sl
          refine zrun ?_ ?_
          refine x_loads (cs := [kk, .int .u64 p.2]) rfl rfl rfl (hpmt (cels_two a1 a2)) rfl trivial ?_
          refine x_alloc rfl rfl trivial ?_
          intro H9 hn9
          refine ⟨trivial, ?_⟩
          refine x_stores rfl rfl rfl rfl (two_oneC' (isSl_oneC skk)) hn9.blk (by simp) trivial ?_
          intro H10 hB10 hk10 hs10
          refine ⟨trivial, ?_⟩
          have hs9 := hn9.size
          have hk810 : Keep Non H8 H10 := keep_at hn9.keep hk10 (Nat.le_refl _)
          have hB10 : Blk H10 H8.size [kk, .int .u64 p.2] := hB10
          have hK10 := a3.keepN hk810
          have k0 : cel H10 H8.size 0 = some kk := by rw [hB10.cel]; rfl
          have k1 : cel H10 H8.size 1 = some (.int .u64 p.2) := by rw [hB10.cel]; rfl
          have D10 := D8.keepN hk810
          have hcK : Bs H10 y.2.1 c.key := (hy5.keepN (hk58.non_trans hk810)).2.1.1
          have hB810 := hB8.keep hk810 (fun h => h)
          have hBo10 := hBo8.keep hk810 (fun h => h)
          have hV10 := hV8.keepN hk810
          have hk010 := hk08.non_trans hk810
          refine zrunc ?_ ?_
          refine cw_cut (fun e : Bool => [(2, ptr H.size 0), (4, ptr H1.size 0), (5, .bool false), (6, ptr H3.size 0), (8, ptr H5.size 0), (10, ptr H8.size 0), (29, y.2.2), (30, .int .i64 c.pairs.length), (31, .int .i64 j), (46, .bool e)]) (fun e H' => H10 = H' ∧ e = !decide (p.1.length ≤ 65535 ∧ begins p.1 c.key = true)) ?_ ?_
          · refine zrun ?_ ?_
            refine x_load rfl rfl (hpmt (k0)) rfl trivial ?_
            refine zrun ?_ ?_
            refine x_call rfl rfl rfl trivial (key_May skk) ?_
            rintro _ _ ⟨rfl, rfl⟩
            refine ⟨trivial, ?_⟩
            refine zrun ?_ ?_
            refine x_split 39 rfl (fun q1 => ?_) (fun q1 => ?_) <;> (try simp at q1)
            · refine zrun ?_ ?_
              exact nw_meet true (by repeat (first | exact True.intro | refine ⟨rfl, ?_⟩)) ⟨rfl, by rw [decide_eq_false (fun h => by have := h.1; omega)]; rfl⟩
            · refine zrun ?_ ?_
              refine x_load rfl rfl (hpmt (k0)) rfl trivial ?_
              refine zrun ?_ ?_
              refine x_load rfl rfl (hpmt (D10.d7)) rfl trivial ?_
              refine zrun ?_ ?_
              refine x_call rfl rfl rfl trivial (key_Begins hK10 hcK) ?_
              rintro _ _ ⟨rfl, rfl⟩
              refine ⟨trivial, ?_⟩
              refine zrun ?_ ?_
              refine nw_meet _ (by repeat (first | exact True.intro | refine ⟨rfl, ?_⟩)) ⟨rfl, ?_⟩
              congr 1
              rw [Bool.eq_iff_iff, decide_eq_true_iff]
              exact ⟨fun h => ⟨q1, h⟩, fun h => h.2⟩
          rintro e _ ⟨rfl, he⟩
          cases e with
          | true =>
            have hno : ¬ (p.1.length ≤ 65535 ∧ begins p.1 c.key = true) := fun h => by rw [decide_eq_true h] at he; cases he
            have hz : none = R := by
              rw [hR, if_neg]
              intro h
              have h2 := h.2.2
              unfold okB at h2
              obtain ⟨h3, h4⟩ := Bool.and_eq_true_iff.1 h2
              exact hno ⟨longs_not (okS_of h3).may p hpm, List.all_eq_true.1 h4 p hpm⟩
            refine zrun ?_ ?_
            refine x_build (cs := zP) rfl rfl rfl ocp_nil rfl trivial ?_
            refine x_stores rfl rfl rfl rfl (by simp [zP, oneC, Value.oneCell']) (hBo10) (by simp [zP]) trivial ?_
            intro Hz hBz hkz hsz
            refine ⟨trivial, ?_⟩
            refine zrun ?_ ?_
            exact cw_retc2 rfl rfl rfl rfl (hBz.cels 0 3 (by simp [putL, zP])) ⟨(hk010).step hkz (fun z hz (e : z = _) => by omega), .slice none 0 0, 0, 0, [], by rw [← hz]; rfl, PoS.nil _ _, Nat.zero_le _, fun x hx => by rw [← hz] at hx; cases hx⟩
          | false =>
            have hyes : p.1.length ≤ 65535 ∧ begins p.1 c.key = true := Classical.byContradiction fun h => by rw [decide_eq_false h] at he; cases he
            have e8 : cel H10 H5.size 0 = some v := by rw [hB810.cel]; rfl
            have hVq := (hV8.mono (S' := fun z => H7.size ≤ z ∧ z < H8.size) (fun z hz hl => ⟨hz, hl⟩)).keepN hk810
            obtain ⟨q, hq, ho, hdq⟩ := id hVq.row
            have hfv := hVq.fresh
            have hs810 := hk810.size
            have hkr := Keep.refl (fun z => z = sb v ∧ 0 < sc v) H10
            have hn8 : ¬ (H5.size = sb v ∧ 0 < sc v) := fun e => by have := (hfv e.2).1; omega
            have hn10 : ¬ (H8.size = sb v ∧ 0 < sc v) := fun e => by have := (hfv e.2).2; omega
            have hjt : (c.pairs.take j).length = j := by rw [List.length_take]; omega
            refine zrun ?_ ?_
            refine zrunc ?_ ?_
            refine cw_held (fun _ => Keep (fun z => z = sb v ∧ 0 < sc v) H10) ⟨[4, 8, 9, 11], [(1, 0), (3, 0), (6, 0)]⟩ (.op 0 (.op 1 (.op 2 (.op 3 (.op 5 (.op 6 (.op 4 (.op 7 (.op 8 (.op 9 (.op 10 (.op 11 (.nil))))))))))))) panicOk_body mixed (by kernel_rfl) ?_
            refine zhrun ?_ ?_
            refine x_load rfl rfl (hpmk rfl (fun _ hk => hk.cel e8 hn8)) rfl (okq_load rfl rfl (by assumption)) ?_
            refine zhrun ?_ ?_
            refine x_load rfl rfl (hpmk rfl (fun _ hk => hk.cel k0 hn10)) rfl (okq_load rfl rfl (by assumption)) ?_
            refine zhrun ?_ ?_
            refine x_load rfl rfl (hpmk rfl (fun _ hk => hk.cel k1 hn10)) rfl (okq_load rfl rfl (by assumption)) ?_
            refine zhrun ?_ ?_
            refine x_call rfl rfl rfl ⟨rfl, rfl⟩ (bytes_Clone hK10 (by omega)) ?_
            rintro kc H11 ⟨hk11, hO11, hf11⟩
            refine ⟨okm_keep hk11 (fun _ _ h => h.elim), ?_⟩
            have hovk := isSl_oneC hO11.sl
            have hs11 := hk11.size
            refine zhrun ?_ ?_
            refine x_build (cs := [kc, .int .u64 p.2]) rfl rfl rfl (two_oneC hovk) rfl (okq_reg rfl rfl) ?_
            refine x_buildSliceS1 (by rfl) rfl rfl (by omega) (by rfl) rfl ⟨rfl, rfl⟩ ?_
            intro H12 hn12
            refine ⟨okm_keep hn12.keep (fun _ _ h => h.elim), ?_⟩
            have hs12 := hn12.size
            have hk1012 : Keep Non H10 H12 := hn12.old hk11
            refine zhrun ?_ ?_
            have hap0 : (c.pairs.take j ++ [p]).length = j + 1 := by rw [List.length_append, hjt]; rfl
            refine x_append (by rfl) (by rfl) (by rfl) rfl rfl rfl (ho.keep (S := Non) hk1012 (fun _ h => h)) (isSl_some (Nat.le_refl _) (by omega)) (m := 1) (cx := [kc, .int .u64 p.2]) rfl (hn12.blk.cels 0 2 (by simp)) (two_oneC' hovk) (by omega) rfl ⟨rfl, rfl⟩ ?_
            intro v13 H13 hap
            refine ⟨okm_keep hap.keep (fun z hz e => ⟨e.1, by have := e.2; omega⟩), ?_⟩
            have hV13 : PoS (fun z => H7.size ≤ z) H13 v13 (c.pairs.take j ++ [p]) := PoS.app (S1 := fun z => H7.size ≤ z ∧ z < H8.size) (S2 := fun z => H10.size ≤ z) (q := q) (qx := [(kc, p.2)]) (lx := [p]) (hq.mono fun _ _ hb => ⟨hb.1.keep hk1012 (fun _ h => h), hb.2⟩) (ho.keep (S := Non) hk1012 (fun _ h => h)) hdq hfv (Pk.own1 (p := p) (hO11.keep hn12.keep (fun _ h => h)) (fun hc => hf11 hc)) (Dis.one _) (fun z h1 h2 => by have := h1.2; omega) (fun z h => h.1) (fun z h => by have := h; omega) (by show H7.size ≤ H12.size; omega) hap
            have hov13 := isSl_oneC hV13.ps.sl
            have hs13 := hap.keep.size
            have hB813 := (hB810.keep hk1012 (fun h => h)).keep hap.keep (fun e => hn8 ⟨e.1, by have := e.2; omega⟩)
            have hk513 : Keep Non H5 H13 := (hk58.non_trans (hk810.non_trans hk1012)).old hap.keep (fun z hz e => by have := (hfv (by have := e.2; omega)).1; have := e.1; omega)
            refine zhrun ?_ ?_
            refine x_store rfl rfl rfl hov13 hB813 (by simp) ⟨rfl, rfl⟩ ?_
            intro H14 hB14 hk14 hs14
            refine ⟨okm_free (fun c => by cases c <;> kernel_rfl), ?_⟩
            refine zhrun ?_ ?_
            refine zrun ?_ ?_
            refine nw_round (j + 1, v13) (by repeat (first | exact True.intro | refine ⟨rfl, ?_⟩)) ⟨by simp only; omega, ?_, keep_at hk513 hk14 (Nat.le_refl _), by omega, hB14, ?_⟩ (by simp only; omega)
            · intro p' hp'
              simp only at hp'
              rw [List.take_add_one, hp] at hp'
              rcases List.mem_append.1 hp' with h | h
              · exact hall p' h
              · simp at h; subst h; exact hyes
            · simp only
              rw [List.take_add_one, hp]
              exact hV13.keep hk14 (fun z hz (e : z = _) => by omega)
        · have hjl2 : j = c.pairs.length := by omega
          subst hjl2
          rw [List.take_length] at hall hV8
          have hbeg : (c.pairs.all fun p => begins p.1 c.key) = true := List.all_eq_true.2 fun p hp => (hall p hp).2
          have hmay : longs c.pairs = false := by
            cases h : longs c.pairs with
            | false => rfl
            | true =>
              obtain ⟨p, hp, h2⟩ := List.any_eq_true.1 h
              have := (hall p hp).1
              have := of_decide_eq_true h2
              omega
          have hRe : R = if c.at_ = 0 ∧ c.byte = 0 ∧ okS c = true then some ⟨c.pairs, i + 1, 1⟩ else none := by
            rw [hR]
            unfold okB
            rw [hbeg, Bool.and_true]
          have hzf : ¬ (c.at_ = 0 ∧ c.byte = 0 ∧ OkS c) → R = none := fun h => by rw [hRe, if_neg (fun e => h ⟨e.1, e.2.1, okS_of e.2.2⟩)]
          have hPs8 := hPs.keepN hk58
          have hkr := Keep.refl (fun z => z = H1.size) H8
          refine zrun ?_ ?_
          refine x_load rfl rfl (hpmt (D8.d8)) rfl trivial ?_
          refine zrunc ?_ ?_
          refine cw_held (fun _ => Keep (fun z => z = H1.size) H8) ⟨[42, 44], [(0, 0), (2, 0), (6, 0), (11, 0), (16, 0), (29, 0), (35, 0), (41, 0)]⟩ (.op 0 (.op 1 (.op 2 (.op 3 (.op 4 (.op 5 (.op 6 (.op 7 (.op 8 (.op 9 (.op 10 (.op 11 (.op 12 (.op 13 (.op 14 (.op 15 (.op 16 (.op 17 (.op 18 (.op 19 (.op 20 (.op 21 (.op 22 (.op 23 (.op 24 (.op 25 (.op 26 (.op 27 (.op 28 (.op 29 (.op 30 (.op 31 (.op 32 (.op 33 (.op 34 (.op 35 (.op 36 (.op 37 (.op 38 (.op 39 (.op 40 (.op 41 (.op 42 (.op 43 (.op 44 (.op 45 (.nil))))))))))))))))))))))))))))))))))))))))))))))) panicOk_body mixed (by kernel_rfl) ?_
          refine zhrun ?_ ?_
          refine x_loads (cs := [v, .int .i64 ((i : Int) + 1), .int .i64 1]) rfl rfl rfl (hpmk rfl (fun _ hk => (hB8.cels 0 3 (by simp)).keep hk (fun _ (e : _ = _) => by omega))) rfl (okq_load rfl rfl (by assumption)) ?_
          refine zhrun ?_ ?_
          refine x_load rfl rfl (hpmk rfl (fun _ hk => hk.cel D8.d1 (fun (e : _ = _) => by omega))) rfl (okq_load rfl rfl (by assumption)) ?_
          refine zhrun ?_ ?_
          refine x_split 67 rfl (fun q1 => ?_) (fun q1 => ?_) <;> (try simp at q1)
          rotate_left
          · have hz : R = none := hzf (fun h => by exact q1 h.1)
            refine zhfall ?_ ?_
            refine x_stores rfl rfl rfl rfl (oc_cons hov (oc_cons rfl (oc_cons rfl oc_nil))) hBo8 (by simp [zP]) ⟨rfl, rfl⟩ ?_
            intro H12 hB12 hk12 hs12
            refine ⟨okm_keep hk12 (fun _ _ e => e), ?_⟩
            refine zhfall ?_ ?_
            refine zrun ?_ ?_
            exact cw_retc2 rfl rfl rfl rfl (hB12.cels 0 3 (by simp [putL, zP])) ⟨hk08.step hk12 (fun z hz (e : z = _) => by omega), v, (i : Int) + 1, 1, c.pairs, by rw [hz]; rfl, (hV8.keep hk12 (fun z hz (e : z = _) => by omega)).mono (fun z hz _ => by omega), hml, fun x hx => by rw [hz] at hx; cases hx⟩
          refine zhrun ?_ ?_
          refine x_load rfl rfl (hpmk rfl (fun _ hk => hk.cel D8.d4 (fun (e : _ = _) => by omega))) rfl (okq_load rfl rfl (by assumption)) ?_
          refine zhrun ?_ ?_
          try rw [byte_zero]
          refine x_split 72 rfl (fun q2 => ?_) (fun q2 => ?_) <;> (try simp at q2)
          rotate_left
          · have hz : R = none := hzf (fun h => by exact q2 h.2.1)
            refine zhfall ?_ ?_
            refine x_stores rfl rfl rfl rfl (oc_cons hov (oc_cons rfl (oc_cons rfl oc_nil))) hBo8 (by simp [zP]) ⟨rfl, rfl⟩ ?_
            intro H12 hB12 hk12 hs12
            refine ⟨okm_keep hk12 (fun _ _ e => e), ?_⟩
            refine zhfall ?_ ?_
            refine zrun ?_ ?_
            exact cw_retc2 rfl rfl rfl rfl (hB12.cels 0 3 (by simp [putL, zP])) ⟨hk08.step hk12 (fun z hz (e : z = _) => by omega), v, (i : Int) + 1, 1, c.pairs, by rw [hz]; rfl, (hV8.keep hk12 (fun z hz (e : z = _) => by omega)).mono (fun z hz _ => by omega), hml, fun x hx => by rw [hz] at hx; cases hx⟩
          refine zhrun ?_ ?_
          refine x_load rfl rfl (hpmk rfl (fun _ hk => hk.cel D8.d5 (fun (e : _ = _) => by omega))) rfl (okq_load rfl rfl (by assumption)) ?_
          refine zhrun ?_ ?_
          refine x_split 77 rfl (fun q3 => ?_) (fun q3 => ?_) <;> (try simp at q3)
          rotate_left
          · have hz : R = none := hzf (fun h => by rw [h.2.2.full] at q3; cases q3)
            refine zhfall ?_ ?_
            refine x_stores rfl rfl rfl rfl (oc_cons hov (oc_cons rfl (oc_cons rfl oc_nil))) hBo8 (by simp [zP]) ⟨rfl, rfl⟩ ?_
            intro H12 hB12 hk12 hs12
            refine ⟨okm_keep hk12 (fun _ _ e => e), ?_⟩
            refine zhfall ?_ ?_
            refine zrun ?_ ?_
            exact cw_retc2 rfl rfl rfl rfl (hB12.cels 0 3 (by simp [putL, zP])) ⟨hk08.step hk12 (fun z hz (e : z = _) => by omega), v, (i : Int) + 1, 1, c.pairs, by rw [hz]; rfl, (hV8.keep hk12 (fun z hz (e : z = _) => by omega)).mono (fun z hz _ => by omega), hml, fun x hx => by rw [hz] at hx; cases hx⟩
          refine zhrun ?_ ?_
          refine x_load rfl rfl (hpmk rfl (fun _ hk => hk.cel D8.d6 (fun (e : _ = _) => by omega))) rfl (okq_load rfl rfl (by assumption)) ?_
          refine zhrun ?_ ?_
          refine x_split 82 rfl (fun q4 => ?_) (fun q4 => ?_) <;> (try simp at q4)
          rotate_left
          · have hz : R = none := hzf (fun h => by exact q4 h.2.2.val)
            refine zhfall ?_ ?_
            refine x_stores rfl rfl rfl rfl (oc_cons hov (oc_cons rfl (oc_cons rfl oc_nil))) hBo8 (by simp [zP]) ⟨rfl, rfl⟩ ?_
            intro H12 hB12 hk12 hs12
            refine ⟨okm_keep hk12 (fun _ _ e => e), ?_⟩
            refine zhfall ?_ ?_
            refine zrun ?_ ?_
            exact cw_retc2 rfl rfl rfl rfl (hB12.cels 0 3 (by simp [putL, zP])) ⟨hk08.step hk12 (fun z hz (e : z = _) => by omega), v, (i : Int) + 1, 1, c.pairs, by rw [hz]; rfl, (hV8.keep hk12 (fun z hz (e : z = _) => by omega)).mono (fun z hz _ => by omega), hml, fun x hx => by rw [hz] at hx; cases hx⟩
          refine zhrun ?_ ?_
          refine x_split 86 rfl (fun q5 => ?_) (fun q5 => ?_) <;> (try simp at q5)
          rotate_left
          · have hz : R = none := hzf (fun h => by have := h.2.2.one; omega)
            refine zhfall ?_ ?_
            refine x_stores rfl rfl rfl rfl (oc_cons hov (oc_cons rfl (oc_cons rfl oc_nil))) hBo8 (by simp [zP]) ⟨rfl, rfl⟩ ?_
            intro H12 hB12 hk12 hs12
            refine ⟨okm_keep hk12 (fun _ _ e => e), ?_⟩
            refine zhfall ?_ ?_
            refine zrun ?_ ?_
            exact cw_retc2 rfl rfl rfl rfl (hB12.cels 0 3 (by simp [putL, zP])) ⟨hk08.step hk12 (fun z hz (e : z = _) => by omega), v, (i : Int) + 1, 1, c.pairs, by rw [hz]; rfl, (hV8.keep hk12 (fun z hz (e : z = _) => by omega)).mono (fun z hz _ => by omega), hml, fun x hx => by rw [hz] at hx; cases hx⟩
          refine zhrun ?_ ?_
          refine x_split 90 rfl (fun q6 => ?_) (fun q6 => ?_) <;> (try simp at q6)
          rotate_left
          · have hz : R = none := hzf (fun h => by have := h.2.2.most; omega)
            refine zhfall ?_ ?_
            refine x_stores rfl rfl rfl rfl (oc_cons hov (oc_cons rfl (oc_cons rfl oc_nil))) hBo8 (by simp [zP]) ⟨rfl, rfl⟩ ?_
            intro H12 hB12 hk12 hs12
            refine ⟨okm_keep hk12 (fun _ _ e => e), ?_⟩
            refine zhfall ?_ ?_
            refine zrun ?_ ?_
            exact cw_retc2 rfl rfl rfl rfl (hB12.cels 0 3 (by simp [putL, zP])) ⟨hk08.step hk12 (fun z hz (e : z = _) => by omega), v, (i : Int) + 1, 1, c.pairs, by rw [hz]; rfl, (hV8.keep hk12 (fun z hz (e : z = _) => by omega)).mono (fun z hz _ => by omega), hml, fun x hx => by rw [hz] at hx; cases hx⟩
          refine zhrun ?_ ?_
          refine x_load rfl rfl (hpmk rfl (fun _ hk => hk.cel D8.d3 (fun (e : _ = _) => by omega))) rfl (okq_load rfl rfl (by assumption)) ?_
          refine zhrun ?_ ?_
          refine x_split 96 rfl (fun q7 => ?_) (fun q7 => ?_) <;> (try simp at q7)
          rotate_left
          · have hz : R = none := hzf (fun h => by exact q7 h.2.2.kids)
            refine zhfall ?_ ?_
            refine x_stores rfl rfl rfl rfl (oc_cons hov (oc_cons rfl (oc_cons rfl oc_nil))) hBo8 (by simp [zP]) ⟨rfl, rfl⟩ ?_
            intro H12 hB12 hk12 hs12
            refine ⟨okm_keep hk12 (fun _ _ e => e), ?_⟩
            refine zhfall ?_ ?_
            refine zrun ?_ ?_
            exact cw_retc2 rfl rfl rfl rfl (hB12.cels 0 3 (by simp [putL, zP])) ⟨hk08.step hk12 (fun z hz (e : z = _) => by omega), v, (i : Int) + 1, 1, c.pairs, by rw [hz]; rfl, (hV8.keep hk12 (fun z hz (e : z = _) => by omega)).mono (fun z hz _ => by omega), hml, fun x hx => by rw [hz] at hx; cases hx⟩
          refine zhrun ?_ ?_
          refine x_load rfl rfl (hpmk rfl (fun _ hk => hk.cel D8.d2 (fun (e : _ = _) => by omega))) rfl (okq_load rfl rfl (by assumption)) ?_
          refine zhrun ?_ ?_
          refine x_split 102 rfl (fun q8 => ?_) (fun q8 => ?_) <;> (try simp at q8)
          rotate_left
          · have hz : R = none := hzf (fun h => by exact q8 h.2.2.count)
            refine zhfall ?_ ?_
            refine x_stores rfl rfl rfl rfl (oc_cons hov (oc_cons rfl (oc_cons rfl oc_nil))) hBo8 (by simp [zP]) ⟨rfl, rfl⟩ ?_
            intro H12 hB12 hk12 hs12
            refine ⟨okm_keep hk12 (fun _ _ e => e), ?_⟩
            refine zhfall ?_ ?_
            refine zrun ?_ ?_
            exact cw_retc2 rfl rfl rfl rfl (hB12.cels 0 3 (by simp [putL, zP])) ⟨hk08.step hk12 (fun z hz (e : z = _) => by omega), v, (i : Int) + 1, 1, c.pairs, by rw [hz]; rfl, (hV8.keep hk12 (fun z hz (e : z = _) => by omega)).mono (fun z hz _ => by omega), hml, fun x hx => by rw [hz] at hx; cases hx⟩
          refine zhrun ?_ ?_
          refine x_load rfl rfl (hpmk rfl (fun _ hk => hk.cel D8.d8 (fun (e : _ = _) => by omega))) rfl (okq_load rfl rfl (by assumption)) ?_
          refine zhrun ?_ ?_
          refine x_call rfl rfl rfl ⟨rfl, rfl⟩ (model_Rises hPs8) ?_
          rintro _ _ ⟨rfl, rfl⟩
          refine ⟨okm_keep (Keep.refl Non _) (fun _ _ h => h.elim), ?_⟩
          refine zhrun ?_ ?_
          refine x_stores rfl rfl rfl rfl (oc_cons hov (oc_cons rfl (oc_cons rfl oc_nil))) hBo8 (by simp [zP]) ⟨rfl, rfl⟩ ?_
          intro H12 hB12 hk12 hs12
          refine ⟨okm_keep hk12 (fun _ _ e => e), ?_⟩
          refine zhrun ?_ ?_
          refine zrun ?_ ?_
          refine cw_retc2 rfl rfl rfl rfl (hB12.cels 0 3 (by simp [putL, zP])) ⟨hk08.step hk12 (fun z hz (e : z = _) => by omega), v, (i : Int) + 1, 1, c.pairs, ?_, (hV8.keep hk12 (fun z hz (e : z = _) => by omega)).mono (fun z hz _ => by omega), hml, fun x hx => ?_⟩
          · cases hr : rises c.pairs with
            | true => rw [hRe, if_pos ⟨q1, q2, okS_yes ⟨q3, q4, by omega, by omega, q7, q8, hr, hmay⟩⟩]; rfl
            | false => rw [hzf (fun h => by rw [h.2.2.rise] at hr; cases hr)]; rfl
          · rw [hRe] at hx
            split at hx
            · injection hx with hx
              subst hx
              exact ⟨rfl, rfl, rfl⟩
            · cases hx
      · rw [rdBk_node (by omega) hc hk11] at hR
        have hk6 := Keep.refl Non H5
        obtain ⟨H6, hH6⟩ : ∃ H6, H6 = H5 := ⟨_, rfl⟩
        have hs6 : H5.size ≤ H6.size := by rw [hH6]; exact Nat.le_refl _
        have hk06 := hk05
        have hy6 := hy5
        have hBc6 := hBc5
        have hBo6 := hBo5
        have hBr6 := hBr5
        have D6 := D
        rw [← hH6] at hk06 hy6 hBc6 hBo6 hBr6 D6
        subst hH6
        refine zrun ?_ ?_
        refine x_loads (cs := encC y) rfl rfl rfl (hpmt (hBc6.cels 0 9 (by simp [encC]))) rfl trivial ?_
        refine zrun ?_ ?_
        refine x_call rfl rfl rfl trivial (shp_inner (i := i) hy6 (by omega)) ?_
        rintro _ H7 ⟨hk7, e, v, n, dd, P, rfl, hV7, hPl, het, hef⟩
        refine ⟨trivial, ?_⟩
        have hov := isSl_oneC hV7.ps.sl
        have hs7 := hk7.size
        refine zrun ?_ ?_
        refine x_alloc rfl rfl trivial ?_
        intro H8 hn8
        refine ⟨trivial, ?_⟩
        refine x_stores rfl rfl rfl rfl (oc_cons hov (oc_cons rfl (oc_cons rfl oc_nil))) hn8.blk (by simp) trivial ?_
        intro H9 hB8 hk9 hs9
        refine ⟨trivial, ?_⟩
        have hs8 := hn8.size
        have hk79 : Keep Non H7 H9 := keep_at hn8.keep hk9 (Nat.le_refl _)
        have hk69 := hk7.non_trans hk79
        have hk09 := hk06.non_trans hk69
        have D9 := D6.keepN hk69
        have hV9 := hV7.keepN hk79
        have hBo9 := hBo6.keep hk69 (fun h => h)
        have hBr9 := hBr6.keep hk69 (fun h => h)
        have b0 : cel H9 H7.size 0 = some v := by rw [hB8.cel]; rfl
        have sV := hV9.ps.sl
        have hkids := hok.kids c hcm
        refine zrunc ?_ ?_
        refine cw_cut (fun e : Bool => [(1, .int .i64 i), (2, ptr H.size 0), (4, ptr H1.size 0), (5, .bool false), (6, ptr H3.size 0), (12, ptr H7.size 0), (119, .bool e)]) (fun e H' => H9 = H' ∧ (e = true → ¬ (InnerP c ∧ c.kind = 10)) ∧ (e = false → InnerP c ∧ c.kind = 10)) ?_ ?_
        · refine zrun ?_ ?_
          cases e with
          | false =>
            refine zrun ?_ ?_
            exact nw_meet true (by repeat (first | exact True.intro | refine ⟨rfl, ?_⟩)) ⟨rfl, (fun _ h => hef rfl h.1), (fun e => by cases e)⟩
          | true =>
            obtain ⟨hI, w1, w2, w3⟩ := het rfl
            refine zrun ?_ ?_
            refine x_load rfl rfl (hpmt (D9.d0)) rfl trivial ?_
            refine zrun ?_ ?_
            refine nw_meet _ (by repeat (first | exact True.intro | refine ⟨rfl, ?_⟩)) ⟨rfl, (fun e1 h => by rw [h.2] at e1; cases e1), (fun e1 => ⟨hI, by simpa using e1⟩)⟩
        rintro e1 _ ⟨rfl, ht, hfl⟩
        cases e1 with
        | true =>
          rw [if_neg (ht rfl)] at hR
          have hz : none = R := hR.symm
          refine zrun ?_ ?_
          refine x_build (cs := zP) rfl rfl rfl ocp_nil rfl trivial ?_
          refine x_stores rfl rfl rfl rfl (by simp [zP, oneC, Value.oneCell']) (hBo9) (by simp [zP]) trivial ?_
          intro Hz hBz hkz hsz
          refine ⟨trivial, ?_⟩
          refine zrun ?_ ?_
          exact cw_retc2 rfl rfl rfl rfl (hBz.cels 0 3 (by simp [putL, zP])) ⟨(hk09).step hkz (fun z hz (e : z = _) => by omega), .slice none 0 0, 0, 0, [], by rw [← hz]; rfl, PoS.nil _ _, Nat.zero_le _, fun x hx => by rw [← hz] at hx; cases hx⟩
        | false =>
          have hN := hfl rfl
          rw [if_pos hN] at hR
          obtain ⟨hI, hk10'⟩ := hN
          obtain ⟨e2, w1, w2, w3⟩ : e = true ∧ n = ((i + 1 : Nat) : Int) ∧ dd = 1 ∧ P = (begR c i).P := by
            cases e with
            | true => exact ⟨rfl, (het rfl).2⟩
            | false => exact absurd hI (hef rfl)
          subst w1 w2 w3
          have hkn := hI.kids0
          have hkx := hI.kids
          obtain ⟨N, hNN⟩ : ∃ N, N = c.kids.toNat := ⟨_, rfl⟩
          have hNk : c.kids = (N : Int) := by omega
          rw [← hNN] at hR
          have hp8 : Part8 l i (begR c i) := ⟨Nat.lt_succ_self i, hilt, by show 0 + i + 1 ≤ i + 1; omega, by show (begR c i).P.length + 8 * i ≤ 8 * (i + 1); omega⟩
          have hK9 := D9.d7
          have hVq : PoS (fun z => H6.size ≤ z ∧ z ≠ H7.size) H9 v (begR c i).P := (hV7.mono (fun z hz hl => ⟨hz, by omega⟩)).keepN hk79
          have hKb : Bs H9 y.2.1 c.key := (hy6.keepN hk69).2.1.1
          refine zrun ?_ ?_
          refine x_loads (cs := [vc]) rfl rfl rfl (hpmt (hBr9.cels 0 1 (by simp))) rfl trivial ?_
          refine x_loads (cs := [v, .int .i64 ((i + 1 : Nat) : Int), .int .i64 1]) rfl rfl rfl (hpmt (hB8.cels 0 3 (by simp [putL]))) rfl trivial ?_
          refine zrun ?_ ?_
          refine x_load rfl rfl (hpmt (D9.d3)) rfl trivial ?_
          refine zrun ?_ ?_
          refine x_load rfl rfl (hpmt (D9.d7)) rfl trivial ?_
          refine zrun ?_ ?_
          refine x_loads (cs := [vc]) rfl rfl rfl (hpmt (hBr9.cels 0 1 (by simp))) rfl trivial ?_
          refine x_makeFunc (fv := [.agg [vc].toArray]) (cv := []) rfl rfl rfl rfl trivial ?_
          rw [hNk]
          refine x_call rfl rfl rfl trivial (shp_children (B0 := B0) (Bc := H6.size) (S0 := fun z => H6.size ≤ z ∧ z ≠ H7.size) (exact := true) (k := c.key) (rd := rdBk f l) (r0 := begR c i) (m := N) (i := i) hok (CR.keepN hC hk09) hv (by omega) (by omega) hKb (hy6.2.1.2) (fun z hz => hz.1) (fun z hz => ⟨by omega, by omega⟩) hVq hp8 (by omega) (fun n H1 hn hnl hk1 hC1 hB1 => ih (by omega) (by omega) hnl hC1 hB1 ) (fun n x hx => rdBk_good hok f hx)) ?_
          rintro _ H10 ⟨hk10, v2, n2, d2, P2, rfl, hV10, hPl2, hx2⟩
          refine ⟨trivial, ?_⟩
          generalize kidsX true (rdBk f l) l c.key N (begR c i) (-1) = res at hR hx2 ⊢
          have hov2 := isSl_oneC hV10.ps.sl
          have hltv : 0 < sc v → sb v < H7.size := fun hc => let ⟨_, _, o, _⟩ := hV7.row; o.lt hc
          have hoff : ∀ z, z < H6.size → ¬ (z = sb v ∧ 0 < sc v) := fun z hz e => by have := hV9.fresh e.2; omega
          have hoff8 : ¬ (H7.size = sb v ∧ 0 < sc v) := fun e => by have := hltv e.2; omega
          have hk010 : Keep Non H H10 := hk09.old hk10 (fun z hz e => hoff z (by omega) e)
          have hBo10 := hBo9.keep hk10 (hoff _ (by omega))
          have hB810 := hB8.keep hk10 hoff8
          have d2' := hk10.cel D9.d2 (hoff _ (by omega))
          have hs10 := hk10.size
          refine zrun ?_ ?_
          refine x_stores rfl rfl rfl rfl (oc_cons hov2 (oc_cons rfl (oc_cons rfl oc_nil))) hB810 (by simp [putL]) trivial ?_
          intro H11 hB811 hk11 hs11
          refine ⟨trivial, ?_⟩
          have hB811 : Blk H11 H7.size [v2, .int .i64 n2, .int .i64 d2] := hB811
          have hk011 : Keep Non H H11 := hk010.old hk11 (fun z hz (e : z = _) => by omega)
          have hBo11 := hBo10.keep hk11 (fun (e : _ = _) => by omega)
          have d2'' := hk11.cel d2' (fun (e : _ = _) => by omega)
          have hV11 : PoS (fun z => H6.size ≤ z) H11 v2 P2 := (hV10.keep hk11 (fun z hz e => hz.2 e)).mono (fun z hz _ => hz.1)
          have b0' : cel H11 H7.size 0 = some v2 := by rw [hB811.cel]; rfl
          have sV2 := hV11.ps.sl
          have hkr := Keep.refl (fun z => z = H1.size) H11
          refine zrun ?_ ?_
          cases res with
          | none =>
            have hz : R = none := hR
            refine zrunc ?_ ?_
            refine cw_held (fun _ => Keep (fun z => z = H1.size) H11) ⟨[15], [(0, 0), (4, 0), (6, 0), (12, 0)]⟩ (.op 0 (.op 1 (.op 2 (.op 3 (.op 4 (.op 5 (.op 6 (.op 7 (.op 8 (.op 9 (.op 10 (.op 11 (.op 12 (.op 13 (.op 14 (.op 15 (.op 16 (.nil)))))))))))))))))) panicOk_body mixed (by kernel_rfl) ?_
            refine zhrun ?_ ?_
            refine x_loads (cs := [v2, .int .i64 n2, .int .i64 d2]) rfl rfl rfl (hpmk rfl (fun _ hk => (hB811.cels 0 3 (by simp)).keep hk (fun _ (e : _ = _) => by omega))) rfl (okq_load rfl rfl (by assumption)) ?_
            refine zhrun ?_ ?_
            refine zhfall ?_ ?_
            refine x_stores rfl rfl rfl rfl (oc_cons hov2 (oc_cons rfl (oc_cons rfl oc_nil))) hBo11 (by simp [zP]) ⟨rfl, rfl⟩ ?_
            intro H12 hB12 hk12 hs12
            refine ⟨okm_keep hk12 (fun _ _ e => e), ?_⟩
            refine zhrun ?_ ?_
            refine zrun ?_ ?_
            refine cw_retc2 rfl rfl rfl rfl (hB12.cels 0 3 (by simp [putL, zP])) ⟨hk011.step hk12 (fun z hz (e : z = _) => by omega), v2, n2, d2, P2, by rw [hz]; rfl, (hV11.keep hk12 (fun z hz (e : z = _) => by omega)).mono (fun z hz _ => by omega), hPl2, fun x hx => by rw [hz] at hx; cases hx⟩
          | some r =>
            obtain ⟨w1, w2, w3⟩ := hx2 r rfl
            subst w1 w2 w3
            have hRe : R = if c.count = (r.P.length : Int) ∧ 4 < c.count then some ⟨r.P, r.next, r.deep + 1⟩ else none := hR
            refine zrunc ?_ ?_
            refine cw_held (fun _ => Keep (fun z => z = H1.size) H11) ⟨[15], [(0, 0), (4, 0), (6, 0), (12, 0)]⟩ (.op 0 (.op 1 (.op 2 (.op 3 (.op 4 (.op 5 (.op 6 (.op 7 (.op 8 (.op 9 (.op 10 (.op 11 (.op 12 (.op 13 (.op 14 (.op 15 (.op 16 (.nil)))))))))))))))))) panicOk_body mixed (by kernel_rfl) ?_
            refine zhrun ?_ ?_
            refine x_loads (cs := [v2, .int .i64 r.next, .int .i64 ((r.deep : Int) + 1)]) rfl rfl rfl (hpmk rfl (fun _ hk => (hB811.cels 0 3 (by simp)).keep hk (fun _ (e : _ = _) => by omega))) rfl (okq_load rfl rfl (by assumption)) ?_
            refine zhrun ?_ ?_
            refine x_load rfl rfl (hpmk rfl (fun _ hk => hk.cel d2'' (fun (e : _ = _) => by omega))) rfl (okq_load rfl rfl (by assumption)) ?_
            refine zhrun ?_ ?_
            refine x_load rfl rfl (hpmk rfl (fun _ hk => hk.cel b0' (fun (e : _ = _) => by omega))) rfl (okq_load rfl rfl (by assumption)) ?_
            refine zhrun ?_ ?_
            refine x_split 143 rfl (fun q1 => ?_) (fun q1 => ?_) <;> (try simp at q1)
            · refine zhrun ?_ ?_
              refine x_load rfl rfl (hpmk rfl (fun _ hk => hk.cel d2'' (fun (e : _ = _) => by omega))) rfl (okq_load rfl rfl (by assumption)) ?_
              refine zhrun ?_ ?_
              refine x_stores rfl rfl rfl rfl (oc_cons hov2 (oc_cons rfl (oc_cons rfl oc_nil))) hBo11 (by simp [zP]) ⟨rfl, rfl⟩ ?_
              intro H12 hB12 hk12 hs12
              refine ⟨okm_keep hk12 (fun _ _ e => e), ?_⟩
              refine zhrun ?_ ?_
              refine zrun ?_ ?_
              refine cw_retc2 rfl rfl rfl rfl (hB12.cels 0 3 (by simp [putL, zP])) ⟨hk011.step hk12 (fun z hz (e : z = _) => by omega), v2, (r.next : Int), (r.deep : Int) + 1, r.P, ?_, (hV11.keep hk12 (fun z hz (e : z = _) => by omega)).mono (fun z hz _ => by omega), hPl2, fun x hx => ?_⟩
              · rw [hRe]
                by_cases hcn : 4 < c.count
                · rw [if_pos ⟨q1, hcn⟩, decide_eq_true hcn]; rfl
                · rw [if_neg (fun e => hcn e.2), decide_eq_false hcn]; rfl
              · rw [hRe] at hx
                split at hx
                · injection hx with hx
                  subst hx
                  exact ⟨rfl, rfl, rfl⟩
                · cases hx
            · have hz : R = none := by rw [hRe, if_neg (fun e => q1 e.1)]
              refine zhfall ?_ ?_
              refine x_stores rfl rfl rfl rfl (oc_cons hov2 (oc_cons rfl (oc_cons rfl oc_nil))) hBo11 (by simp [zP]) ⟨rfl, rfl⟩ ?_
              intro H12 hB12 hk12 hs12
              refine ⟨okm_keep hk12 (fun _ _ e => e), ?_⟩
              refine zhrun ?_ ?_
              refine zrun ?_ ?_
              exact cw_retc2 rfl rfl rfl rfl (hB12.cels 0 3 (by simp [putL, zP])) ⟨hk011.step hk12 (fun z hz (e : z = _) => by omega), v2, (r.next : Int), (r.deep : Int) + 1, r.P, by rw [hz]; rfl, (hV11.keep hk12 (fun z hz (e : z = _) => by omega)).mono (fun z hz _ => by omega), hPl2, fun x hx => by rw [hz] at hx; cases hx⟩
end Go.Proofs.YtkdmcbacofafpaaDoor.X
