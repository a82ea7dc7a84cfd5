/- Chapter 11's document: what it tells of all cells. -/
import Derived.Test.YtkdmcbacofafpaaDoorR11d
namespace Go.Proofs.YtkdmcbacofafpaaDoor.X
open Go Go.Proofs
set_option linter.unusedVariables false
set_option linter.unusedSimpArgs false
set_option maxRecDepth 10000
set_option maxHeartbeats 4000000

theorem rdTs_good {l : List Cel} {x : PT} (h : rdTs l = some x) : 1 ≤ x.next ∧ x.next ≤ l.length ∧ x.deep ≤ x.next ∧ x.P.length ≤ x.next := by
  unfold rdTs at h
  cases hc : l[0]? with
  | none => rw [hc] at h; cases h
  | some c =>
    have hl := (List.getElem?_eq_some_iff.1 hc).1
    rw [hc] at h
    simp only at h
    split at h
    · split at h
      · split at h
        · injection h with h
          subst h
          rename_i h1
          exact ⟨Nat.le_refl 1, by show 1 ≤ l.length; omega, Nat.le_refl 1, Nat.le_refl 1⟩
        · cases hx : rdT (l.length + 1) l 1 [] (-1) 256 with
          | none => rw [hx] at h; cases h
          | some y =>
            rw [hx] at h
            injection h with h
            subst h
            obtain ⟨g, gp⟩ := rdT_good _ hx
            have := g.lt; have := g.le; have := g.deep
            refine ⟨by show 1 ≤ y.next; omega, by show y.next ≤ _; omega, by show max 1 y.deep ≤ y.next; omega, ?_⟩
            show ([([], c.val)] ++ y.P).length ≤ y.next
            simp
            omega
      · cases h
    · obtain ⟨g, gp⟩ := rdT_good _ h
      have := g.lt; have := g.le; have := g.deep
      exact ⟨by omega, by omega, by omega, by omega⟩
/-- the kinds' own readers -/
noncomputable def rdIn (tag : Int) (l : List Cel) : Option PT := if tag = 1 then rdC (l.length + 1) l 0 (-1) else if tag = 2 then rdTs l else if tag = 3 then rdR (l.length + 1) l 0 [] else rdB (l.length + 1) l 0 []
theorem rdAll_in {tag : Int} {l : List Cel} (h : ¬ (tag < 1 ∨ 4 < tag)) (hl : l ≠ []) : rdAll tag l = match rdIn tag l with
    | none => none
    | some r => if r.next = l.length then some r else none := by
  unfold rdAll
  rw [if_neg h, if_neg hl]
  rfl
theorem rdIn_good {tag : Int} {l : List Cel} {x : PT} (hok : CelsOk l) (h : rdIn tag l = some x) : x.next ≤ l.length ∧ x.deep ≤ x.next ∧ x.P.length ≤ 1000000 ∧ 1 ≤ x.deep := by
  have hll := hok.len
  unfold rdIn at h
  split at h
  · obtain ⟨g, gp, _⟩ := rdC_good _ h
    have := g.lt; have := g.le; have := g.deep; have := g.one
    exact ⟨by omega, by omega, by omega, by omega⟩
  · split at h
    · have g1 : 1 ≤ x.deep := by
        unfold rdTs at h
        split at h
        · cases h
        · split at h
          · split at h
            · split at h
              · injection h with h; subst h; exact Nat.le_refl 1
              · cases hx : rdT (l.length + 1) l 1 [] (-1) 256 with
                | none => rw [hx] at h; cases h
                | some y => rw [hx] at h; injection h with h; subst h; show 1 ≤ max 1 y.deep; omega
            · cases h
          · exact (rdT_good _ h).1.one
      obtain ⟨h1, h2, h3, h4⟩ := rdTs_good h
      exact ⟨by omega, by omega, by omega, g1⟩
    · split at h
      · obtain ⟨g, gp⟩ := rdR_good _ h
        have := g.lt; have := g.le; have := g.deep; have := g.one
        exact ⟨by omega, by omega, by omega, by omega⟩
      · unfold rdB at h
        split at h
        · rename_i ho
          injection h with h
          subst h
          have h1 := readB_deep (by omega) _ ho
          have h2 := readB_held _ _ _ _ ho
          have h3 := readB_P (l.length + 1) l 0 []
          have := hok.many
          refine ⟨h2.2.1, ?_, by show (readB _ _ _ _).P.length ≤ _; omega, ?_⟩
          · show (readB _ _ _ _).deep.toNat ≤ (readB _ _ _ _).next
            omega
          · show 1 ≤ (readB _ _ _ _).deep.toNat
            omega
        · cases h
theorem rdAll_good {tag : Int} {l : List Cel} (hok : CelsOk l) : ((rdAll tag l).getD {}).next ≤ l.length ∧ ((rdAll tag l).getD {}).deep ≤ l.length ∧ ((rdAll tag l).getD {}).P.length ≤ 1000000 := by
  have hz : (({} : PT).next ≤ l.length ∧ ({} : PT).deep ≤ l.length ∧ ({} : PT).P.length ≤ 1000000) := ⟨Nat.zero_le _, Nat.zero_le _, Nat.zero_le _⟩
  by_cases h1 : tag < 1 ∨ 4 < tag
  · unfold rdAll; rw [if_pos h1]; exact hz
  · by_cases h2 : l = []
    · unfold rdAll; rw [if_neg h1, if_pos h2]; exact hz
    · rw [rdAll_in h1 h2]
      cases h : rdIn tag l with
      | none => exact hz
      | some r =>
        have g := rdIn_good hok h
        show ((if r.next = l.length then some r else none).getD {}).next ≤ _ ∧ ((if r.next = l.length then some r else none).getD {}).deep ≤ _ ∧ ((if r.next = l.length then some r else none).getD {}).P.length ≤ _
        split
        · exact ⟨g.1, Nat.le_trans g.2.1 g.1, g.2.2.1⟩
        · exact hz
/-- what is told of all cells -/
def ReadA (B0 : Nat) (o : Option PT) (H : Heap) (r : Value) (H' : Heap) : Prop := Keep Non H H' ∧ ∃ v, r = .agg [v, .int .i64 (o.getD {}).next, .int .i64 (o.getD {}).deep, .bool o.isSome].toArray ∧ RdK B0 H.size H.size H' v (o.getD {}).P

theorem ref11_All {tag : Int} {l : List Cel} {vc : Value} {B0 : Nat} {H : Heap} (hok : CelsOk l) (hC : CR B0 H vc l) (hB : B0 ≤ H.size) : Ret Tryd.prog 22 [.int .i64 tag, vc] H (ReadA B0 (rdAll tag l) H) := by
  have sC := hC.sl
  have cC := sC.cap
  have hll := hok.len
  obtain ⟨R, hR⟩ : ∃ R, R = rdAll tag l := ⟨_, rfl⟩
  rw [← hR]
  refine ret_of Tryd.func22 rfl rfl rfl rfl ?_
  intro w0
  refine zrun ?_ ?_
  refine x_alloc rfl rfl trivial ?_
  intro H1 hn1
  refine ⟨trivial, ?_⟩
  have hs1 := hn1.size
  have hk1 := hn1.keep
  have hB4 : Blk H1 H.size zR := hn1.blk
  refine zrunc ?_ ?_
  refine cw_cut (fun e : Bool => [(0, .int .i64 tag), (1, vc), (4, ptr H.size 0), (11, .bool e)]) (fun e H' => H1 = H' ∧ e = decide (tag < 1 ∨ 4 < tag)) ?_ ?_
  · refine zrun ?_ ?_
    refine x_split 8 rfl (fun g1 => ?_) (fun g1 => ?_) <;> (try simp at g1)
    · refine zrun ?_ ?_
      exact nw_meet true (by repeat (first | exact True.intro | refine ⟨rfl, ?_⟩)) ⟨rfl, (decide_eq_true (.inl g1)).symm⟩
    · refine zrun ?_ ?_
      exact nw_meet _ (by repeat (first | exact True.intro | refine ⟨rfl, ?_⟩)) ⟨rfl, decide_eq_decide.2 ⟨fun h => .inr h, fun h => by omega⟩⟩
  rintro e _ ⟨rfl, rfl⟩
  refine zrun ?_ ?_
  refine cw_cond rfl (fun g1 => ?_) (fun g1 => ?_) <;> (try simp at g1)
  · have hz : R = none := by rw [hR]; unfold rdAll; rw [if_pos g1]
    refine zrun ?_ ?_
    refine x_build (cs := [.slice none 0 0, .int .i64 0, .int .i64 0, .bool false]) rfl rfl rfl ocp_nil rfl trivial ?_
    refine x_stores rfl rfl rfl rfl (by simp [oneC, Value.oneCell']) hB4 (by simp [zR]) trivial ?_
    intro Hz hBz hkz hsz
    refine ⟨trivial, ?_⟩
    refine zrun ?_ ?_
    exact cw_retc rfl rfl rfl (hBz.cels 0 4 (by simp [putL, zR])) ⟨keep_at hk1 hkz (Nat.le_refl _), .slice none 0 0, by rw [hz]; rfl, by rw [hz]; exact RdK.nil _ _ _ _⟩
  · have hg1 : ¬ (tag < 1 ∨ 4 < tag) := by omega
    refine zrun ?_ ?_
    refine cw_cond rfl (fun h0 => ?_) (fun h0 => ?_) <;> (try simp at h0)
    · have hl0 : l = [] := by first | exact h0 | exact List.length_eq_zero_iff.1 (by omega)
      have hz : R = some {} := by rw [hR]; unfold rdAll; rw [if_neg hg1, if_pos hl0]
      refine zrun ?_ ?_
      refine x_build (cs := [.slice none 0 0, .int .i64 0, .int .i64 0, .bool true]) rfl rfl rfl (ocp_cons rfl ocp_nil) rfl trivial ?_
      refine x_stores rfl rfl rfl rfl (by simp [oneC, Value.oneCell']) hB4 (by simp [zR]) trivial ?_
      intro Hz hBz hkz hsz
      refine ⟨trivial, ?_⟩
      refine zrun ?_ ?_
      exact cw_retc rfl rfl rfl (hBz.cels 0 4 (by simp [putL, zR])) ⟨keep_at hk1 hkz (Nat.le_refl _), .slice none 0 0, by rw [hz]; rfl, by rw [hz]; exact RdK.nil _ _ _ _⟩
    · have hl0 : l ≠ [] := fun e => by rw [e] at h0; simp at h0
      rw [rdAll_in hg1 hl0] at hR
      obtain ⟨o, ho⟩ : ∃ o, o = rdIn tag l := ⟨_, rfl⟩
      rw [← ho] at hR
      refine zrun ?_ ?_
      refine x_build (cs := [.slice none 0 0, .int .i64 0, .int .i64 0, .bool false]) rfl rfl rfl ocp_nil rfl trivial ?_
      refine x_alloc rfl rfl trivial ?_
      intro H2 hn2
      refine ⟨trivial, ?_⟩
      refine x_stores rfl rfl rfl rfl (by simp [oneC, Value.oneCell']) hn2.blk (by simp) trivial ?_
      intro H3 hB5 hk3 hs3
      refine ⟨trivial, ?_⟩
      have hs2 := hn2.size
      have hk03 : Keep Non H H3 := keep_at (hn2.old hk1) hk3 (by omega)
      have hk13 : Keep Non H1 H3 := keep_at hn2.keep hk3 (Nat.le_refl _)
      have hB43 := hB4.keep hk13 (fun h => h)
      have hs03 := hk03.size
      have hC3 := CR.keepN hC hk03
      have hfin : ∀ {H4 : Heap} {r : Value}, ReadM B0 o H3 r H4 → Keep Non H3 H4 ∧ ∃ v n d P, r = .agg [v, .int .i64 n, .int .i64 d, .bool o.isSome].toArray ∧ RdK B0 H3.size H3.size H4 v P ∧ ∀ x, o = some x → n = (x.next : Int) ∧ d = (x.deep : Int) ∧ P = x.P := fun h => h
      refine zrun ?_ ?_
      refine cw_cut (fun _ : Unit => [(1, vc), (4, ptr H.size 0), (5, ptr H1.size 0)]) (fun _ H' => Keep Non H H' ∧ Blk H' H.size zR ∧ ∃ v n d P, Blk H' H1.size [v, .int .i64 n, .int .i64 d, .bool o.isSome] ∧ RdK B0 H3.size H3.size H' v P ∧ ∀ x, o = some x → n = (x.next : Int) ∧ d = (x.deep : Int) ∧ P = x.P) ?_ ?_
      · refine cw_cond rfl (fun t1 => ?_) (fun t1 => ?_) <;> (try simp at t1)
        · have he : o = rdC (l.length + 1) l 0 (-1) := by rw [ho]; unfold rdIn; rw [if_pos t1]
          refine zrun ?_ ?_
          refine x_call rfl rfl rfl trivial (ref11_Crit hok (l.length + 1) (i := 0) (above := -1) (by omega) (by omega) hC3 (by omega)) ?_
          rintro _ H4 hr
          rw [← he] at hr
          have hr := (hr.toK (by omega)).toM
          obtain ⟨hk4, v, n, d, P, rfl, hV, hx⟩ := hfin hr
          refine ⟨trivial, ?_⟩
          have hov := isSl_oneC hV.ps.sl
          have hB54 := hB5.keep hk4 (fun h => h)
          have hB44 := hB43.keep hk4 (fun h => h)
          refine zrun ?_ ?_
          refine x_stores rfl rfl rfl rfl (oc_cons hov (oc_cons rfl (oc_cons rfl (oc_cons rfl oc_nil)))) hB54 (by simp [putL]) trivial ?_
          intro H5 hB55 hk5 hs5
          refine ⟨trivial, ?_⟩
          refine zrun ?_ ?_
          exact nw_meet () (by repeat (first | exact True.intro | refine ⟨rfl, ?_⟩)) ⟨keep_at (hk03.non_trans hk4) hk5 (by omega), hB44.keep hk5 (fun e => by have e : H.size = H1.size := e; omega), v, n, d, P, hB55, hV.keep hk5 (fun hc e => by have := hV.fresh hc; have e : sb v = H1.size := e; omega) (fun kk bb hkk hne _ _ => bs_ne_row (n := 0) hkk hne hB54 isSl_nil), hx⟩
        · refine zrun ?_ ?_
          refine cw_cond rfl (fun t2 => ?_) (fun t2 => ?_) <;> (try simp at t2)
          · have he : o = rdTs l := by rw [ho]; unfold rdIn; rw [if_neg t1, if_pos t2]
            refine zrun ?_ ?_
            refine x_call rfl rfl rfl trivial (ref11_ternary hok hl0 hC3 (by omega)) ?_
            rintro _ H4 hr
            rw [← he] at hr
            obtain ⟨hk4, v, n, d, P, rfl, hV, hx⟩ := hfin hr
            refine ⟨trivial, ?_⟩
            have hov := isSl_oneC hV.ps.sl
            have hB54 := hB5.keep hk4 (fun h => h)
            have hB44 := hB43.keep hk4 (fun h => h)
            refine zrun ?_ ?_
            refine x_stores rfl rfl rfl rfl (oc_cons hov (oc_cons rfl (oc_cons rfl (oc_cons rfl oc_nil)))) hB54 (by simp [putL]) trivial ?_
            intro H5 hB55 hk5 hs5
            refine ⟨trivial, ?_⟩
            refine zrun ?_ ?_
            exact nw_meet () (by repeat (first | exact True.intro | refine ⟨rfl, ?_⟩)) ⟨keep_at (hk03.non_trans hk4) hk5 (by omega), hB44.keep hk5 (fun e => by have e : H.size = H1.size := e; omega), v, n, d, P, hB55, hV.keep hk5 (fun hc e => by have := hV.fresh hc; have e : sb v = H1.size := e; omega) (fun kk bb hkk hne _ _ => bs_ne_row (n := 0) hkk hne hB54 isSl_nil), hx⟩
          · refine zrun ?_ ?_
            refine cw_cond rfl (fun t3 => ?_) (fun t3 => ?_) <;> (try simp at t3)
            · have he : o = rdR (l.length + 1) l 0 [] := by rw [ho]; unfold rdIn; rw [if_neg t1, if_neg t2, if_pos t3]
              refine zrun ?_ ?_
              refine x_call rfl rfl rfl trivial (ref11_Radix hok (l.length + 1) (i := 0) (by omega) (by omega) hC3 (Bs.nil H3) (by omega)) ?_
              rintro _ H4 hr
              rw [← he] at hr
              have hr := (hr.toK (by omega)).toM
              obtain ⟨hk4, v, n, d, P, rfl, hV, hx⟩ := hfin hr
              refine ⟨trivial, ?_⟩
              have hov := isSl_oneC hV.ps.sl
              have hB54 := hB5.keep hk4 (fun h => h)
              have hB44 := hB43.keep hk4 (fun h => h)
              refine zrun ?_ ?_
              refine x_stores rfl rfl rfl rfl (oc_cons hov (oc_cons rfl (oc_cons rfl (oc_cons rfl oc_nil)))) hB54 (by simp [putL]) trivial ?_
              intro H5 hB55 hk5 hs5
              refine ⟨trivial, ?_⟩
              refine zrun ?_ ?_
              exact nw_meet () (by repeat (first | exact True.intro | refine ⟨rfl, ?_⟩)) ⟨keep_at (hk03.non_trans hk4) hk5 (by omega), hB44.keep hk5 (fun e => by have e : H.size = H1.size := e; omega), v, n, d, P, hB55, hV.keep hk5 (fun hc e => by have := hV.fresh hc; have e : sb v = H1.size := e; omega) (fun kk bb hkk hne _ _ => bs_ne_row (n := 0) hkk hne hB54 isSl_nil), hx⟩
            · have t4 : tag = 4 := by omega
              have he : o = rdB (l.length + 1) l 0 [] := by rw [ho]; unfold rdIn; rw [if_neg t1, if_neg t2, if_neg t3]
              subst t4
              refine zrun ?_ ?_
              refine x_call rfl rfl rfl trivial (ref11_Burst (by omega) hok.many (l.length + 1) (i := 0) (by omega) (by omega) (Nat.le_refl _) hC3 (Bs.nil H3) (by omega)) ?_
              rintro _ H4 hr
              have hr := ReadV.toK hok hr (by omega)
              rw [← he] at hr
              have hr := hr.toM
              obtain ⟨hk4, v, n, d, P, rfl, hV, hx⟩ := hfin hr
              refine ⟨trivial, ?_⟩
              have hov := isSl_oneC hV.ps.sl
              have hB54 := hB5.keep hk4 (fun h => h)
              have hB44 := hB43.keep hk4 (fun h => h)
              refine zrun ?_ ?_
              refine x_stores rfl rfl rfl rfl (oc_cons hov (oc_cons rfl (oc_cons rfl (oc_cons rfl oc_nil)))) hB54 (by simp [putL]) trivial ?_
              intro H5 hB55 hk5 hs5
              refine ⟨trivial, ?_⟩
              refine zrun ?_ ?_
              exact nw_meet () (by repeat (first | exact True.intro | refine ⟨rfl, ?_⟩)) ⟨keep_at (hk03.non_trans hk4) hk5 (by omega), hB44.keep hk5 (fun e => by have e : H.size = H1.size := e; omega), v, n, d, P, hB55, hV.keep hk5 (fun hc e => by have := hV.fresh hc; have e : sb v = H1.size := e; omega) (fun kk bb hkk hne _ _ => bs_ne_row (n := 0) hkk hne hB54 isSl_nil), hx⟩
      rintro _ H5 ⟨hk05, hB45, v, n, d, P, hB55, hV5, hx⟩
      have hov := isSl_oneC hV5.ps.sl
      have f1 : cel H5 H1.size 1 = some (.int .i64 n) := by rw [hB55.cel]; rfl
      have f3 : cel H5 H1.size 3 = some (.bool o.isSome) := by rw [hB55.cel]; rfl
      refine zrun ?_ ?_
      refine x_load rfl rfl (hpmt (f3)) rfl trivial ?_
      cases hoc : o with
      | none =>
        have hz : R = none := by rw [hR, hoc]
        refine zrun ?_ ?_
        refine x_build (cs := [.slice none 0 0, .int .i64 0, .int .i64 0, .bool false]) rfl rfl rfl ocp_nil rfl trivial ?_
        refine x_stores rfl rfl rfl rfl (by simp [oneC, Value.oneCell']) hB45 (by simp [zR]) trivial ?_
        intro Hz hBz hkz hsz
        refine ⟨trivial, ?_⟩
        refine zrun ?_ ?_
        exact cw_retc rfl rfl rfl (hBz.cels 0 4 (by simp [putL, zR])) ⟨keep_at hk05 hkz (Nat.le_refl _), .slice none 0 0, by rw [hz]; rfl, by rw [hz]; exact RdK.nil _ _ _ _⟩
      | some r =>
        obtain ⟨w1, w2, w3⟩ := hx r hoc
        subst w1 w2 w3
        have hRr : R = if r.next = l.length then some r else none := by rw [hR, hoc]
        refine zrun ?_ ?_
        refine x_load rfl rfl (hpmt (f1)) rfl trivial ?_
        refine zrun ?_ ?_
        refine cw_cond rfl (fun hnx => ?_) (fun hnx => ?_) <;> (try simp at hnx)
        · have hz : R = none := by rw [hRr, if_neg (fun e => by omega)]
          refine zrun ?_ ?_
          refine x_build (cs := [.slice none 0 0, .int .i64 0, .int .i64 0, .bool false]) rfl rfl rfl ocp_nil rfl trivial ?_
          refine x_stores rfl rfl rfl rfl (by simp [oneC, Value.oneCell']) hB45 (by simp [zR]) trivial ?_
          intro Hz hBz hkz hsz
          refine ⟨trivial, ?_⟩
          refine zrun ?_ ?_
          exact cw_retc rfl rfl rfl (hBz.cels 0 4 (by simp [putL, zR])) ⟨keep_at hk05 hkz (Nat.le_refl _), .slice none 0 0, by rw [hz]; rfl, by rw [hz]; exact RdK.nil _ _ _ _⟩
        · have hz : R = some r := by rw [hRr, if_pos (by omega)]
          have sV := hV5.ps.sl
          refine zrun ?_ ?_
          refine x_loads (cs := [v, .int .i64 r.next, .int .i64 r.deep, .bool true]) rfl rfl rfl (hpmt (by have := hB55.cels 0 4 (by simp); rw [hoc] at this; exact this)) rfl trivial ?_
          refine x_stores rfl rfl rfl rfl (oc_cons hov (oc_cons rfl (oc_cons rfl (oc_cons rfl oc_nil)))) hB45 (by simp [zR]) trivial ?_
          intro H6 hB6 hk6 hs6
          refine ⟨trivial, ?_⟩
          refine zrun ?_ ?_
          refine cw_retc rfl rfl rfl (hB6.cels 0 4 (by simp [putL, zR])) ⟨keep_at hk05 hk6 (Nat.le_refl _), v, by rw [hz]; rfl, ?_⟩
          rw [hz]
          exact (hV5.mono hs03 hs03).keep hk6 (fun hc e => by have := hV5.fresh hc; have e : sb v = H.size := e; omega) (fun kk bb hkk hne _ _ => bs_ne_row (n := 0) hkk hne hB45 isSl_nil)
end Go.Proofs.YtkdmcbacofafpaaDoor.X
