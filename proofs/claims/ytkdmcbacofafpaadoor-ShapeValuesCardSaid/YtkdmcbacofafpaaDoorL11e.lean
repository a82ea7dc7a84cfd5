/- Chapter 11: ShapeValues, walked. -/
import Derived.Test.YtkdmcbacofafpaaDoorL11d
namespace Go.Proofs.YtkdmcbacofafpaaDoor.X
open Go Go.Proofs
set_option linter.unusedVariables false
set_option linter.unusedSimpArgs false
set_option maxRecDepth 10000
set_option maxHeartbeats 4000000

theorem Po.store {B : Nat} {H : Heap} {v : Value} {l : List Pr} {j : Nat} {p : Pr} (h : Po B H v l) (hp : l[j]? = some p) : ∃ z, Blk H (sb v) z ∧ so v + j * 2 + 1 < z.length ∧ ∀ H' x, Blk H' (sb v) (z.set (so v + j * 2 + 1) (.int .u64 x)) → Keep (· = sb v) H H' → Po B H' v (l.set j (p.1, x)) := by
  obtain ⟨q, hk, ho, hd⟩ := h.row
  have hj := (List.getElem?_eq_some_iff.1 hp).1
  obtain ⟨ko, hqk, hko⟩ := hk.get hp
  have hql := hk.len
  obtain ⟨z, hz1, hz2, hz3⟩ := ho.store (j * 2 + 1) (by rw [pcs_length]; omega)
  refine ⟨z, hz1, by omega, fun H' x hB hkp => ?_⟩
  have hO := hz3 H' (.int .u64 x) (by rw [← Nat.add_assoc]; exact hB)
  rw [pcs_set1 hqk] at hO
  have hmono : Pk (fun k b => Own 1 H' k b.length (bvs b) ∧ (0 < sc k → B ≤ sb k ∧ sb k ≠ sb v)) q l := hk.mono fun k b hb => ⟨hb.1.keep hkp (fun hc e => (hb.2 hc).2 e), hb.2⟩
  have hko' : Own 1 H' ko p.1.length (bvs p.1) ∧ (0 < sc ko → B ≤ sb ko ∧ sb ko ≠ sb v) := ⟨hko.1.keep hkp (fun hc e => (hko.2 hc).2 e), hko.2⟩
  refine ⟨⟨q.set j (ko, x), hmono.set (y := (ko, x)) (p := (p.1, x)) hko' rfl, by rw [List.length_set]; exact hO, fun i i' a b ha hb hne hca hcb => ?_⟩, h.fresh⟩
  have back : ∀ (i : Nat) (a : Value × Int), (q.set j (ko, x))[i]? = some a → ∃ a', q[i]? = some a' ∧ a'.1 = a.1 := fun i a ha => by
    by_cases e : j = i
    · subst e
      rw [List.getElem?_set_self (by omega)] at ha
      injection ha with ha
      exact ⟨_, hqk, by rw [← ha]⟩
    · rw [List.getElem?_set_ne e] at ha
      exact ⟨a, ha, rfl⟩
  obtain ⟨a', ha', ea⟩ := back i a ha
  obtain ⟨b', hb', eb⟩ := back i' b hb
  have := hd i i' a' b' ha' hb' hne (by rw [ea]; exact hca) (by rw [eb]; exact hcb)
  rw [ea, eb] at this
  exact this
/-- with another value -/
def newVal (x : Int) (p : Pr) : Pr := (p.1, IntKind.u64.wrap (IntKind.u64.wrap (p.2 * 3) + x))
theorem rises_map {g : Pr → Pr} (hg : ∀ p, (g p).1 = p.1) : ∀ l : List Pr, rises (l.map g) = rises l := by
  intro l
  induction l with
  | nil => rfl
  | cons p l ih =>
    cases l with
    | nil => rfl
    | cons q l =>
      show (decide (cmpB (g p).1 (g q).1 = -1) && rises ((q :: l).map g)) = (decide (cmpB p.1 q.1 = -1) && rises (q :: l))
      rw [hg, hg, ih]
theorem Few.map {g : Pr → Pr} (hg : ∀ p, (g p).1 = p.1) {l : List Pr} (h : Few l) : Few (l.map g) := ⟨by rw [rises_map hg]; exact h.rise, by rw [List.length_map]; exact h.len, fun p hp => by
  obtain ⟨q, hq, rfl⟩ := List.mem_map.1 hp
  rw [hg]
  exact h.key q hq⟩
/-- the first pairs with other values -/
def halfVal (x : Int) (j : Nat) (l : List Pr) : List Pr := (l.take j).map (newVal x) ++ l.drop j
theorem halfVal_at {x : Int} {j : Nat} {l : List Pr} {p : Pr} (hp : l[j]? = some p) : (halfVal x j l)[j]? = some p := by
  have hj := (List.getElem?_eq_some_iff.1 hp).1
  unfold halfVal
  rw [List.getElem?_append_right (by rw [List.length_map, List.length_take]; omega), List.length_map, List.length_take, List.getElem?_drop]
  rw [show j + (j - min j l.length) = j by omega]
  exact hp
theorem halfVal_set {x : Int} {j : Nat} {l : List Pr} {p : Pr} (hp : l[j]? = some p) : (halfVal x j l).set j (newVal x p) = halfVal x (j + 1) l := by
  have hj := (List.getElem?_eq_some_iff.1 hp).1
  unfold halfVal
  rw [List.set_append, if_neg (by rw [List.length_map, List.length_take]; omega), List.length_map, List.length_take, show j - min j l.length = 0 by omega, drop_cons hp, List.set_cons_zero, List.take_add_one, hp, List.map_append, List.append_assoc]
  rfl
theorem halfVal_len (x : Int) (j : Nat) (l : List Pr) : (halfVal x j l).length = l.length := by
  unfold halfVal
  rw [List.length_append, List.length_map, List.length_take, List.length_drop]
  omega

theorem walk_ShapeValues {vp : Value} {l0 : List Pr} {tag0 by_ : Int} {H : Heap} (hA : Ps H vp l0) (hL : Laid H) : Ret Tryd.prog 6 [.int .i64 tag0, vp, .int .u64 by_] H (Yes H) := by
  refine ret_of Tryd.func6 rfl rfl rfl rfl ?_
  intro w0
  refine zrun ?_ ?_
  refine x_call rfl rfl rfl trivial (law_GreatPairs 30 20 (by omega) hA) ?_
  rintro _ _ ⟨rfl, bg, rfl, hbg⟩
  refine ⟨trivial, ?_⟩
  cases bg with
  | true =>
    refine zrun ?_ ?_
    refine x_call rfl rfl rfl trivial (awake11 hL) ?_
    rintro _ H1 ⟨hk1, rfl⟩
    refine ⟨trivial, ?_⟩
    refine zrun ?_ ?_
    exact cw_ret1 rfl rfl ⟨rfl, hk1⟩
  | false =>
    obtain ⟨hl30, hk20⟩ := hbg rfl
    have hF := few_new (l := l0) (by omega) hk20
    obtain ⟨b1, b2⟩ := low_bd tag0 (m := 4) (by omega)
    refine zrun ?_ ?_
    refine x_call rfl rfl rfl trivial (law_LowF tag0 4 (by omega) H) ?_
    rintro _ _ ⟨rfl, rfl⟩
    refine ⟨trivial, ?_⟩
    generalize low tag0 4 = q at b1 b2 ⊢
    refine zrun ?_ ?_
    obtain ⟨tag, htag⟩ : ∃ tag, tag = 1 + q := ⟨_, rfl⟩
    rw [← htag]
    have t1 : 1 ≤ tag := by omega
    have t4 : tag ≤ 4 := by omega
    clear htag b1 b2
    refine zrun ?_ ?_
    refine x_call rfl rfl rfl trivial (ref_New hA (by omega) (fun p hp => by have := hk20 p hp; omega)) ?_
    rintro _ H1 ⟨hk1, b, rfl, hb, hM⟩
    refine ⟨trivial, ?_⟩
    generalize newM l0 = w at hF hM
    obtain ⟨u, hB1, hP1⟩ := hM.row
    have hL1 := hL.keepN hk1
    have hs1 := hk1.size
    have sU := hP1.sl
    have hw40 := hF.len
    have u1 : cel H1 b 0 = some u := by rw [hB1.cel]; rfl
    refine zrun ?_ ?_
    refine x_load rfl rfl (hpmt (u1)) rfl trivial ?_
    refine zrun ?_ ?_
    refine x_call rfl rfl rfl trivial (law_Copied hP1 (by omega) (fun p hp => by have := hF.key p hp; omega)) ?_
    rintro v9 H2 ⟨hk2, hO2⟩
    refine ⟨trivial, ?_⟩
    have hs2 := hk2.size
    refine zrun ?_ ?_
    refine cw_loop (fun s : Nat × Nat => [(0, .int .i64 tag), (2, .int .u64 by_), (7, ptr b 0), (8, .int .i64 s.2), (9, v9), (10, .int .i64 s.1)]) (fun s H' => s.1 ≤ w.length ∧ Keep Non H1 H' ∧ Po H1.size H' v9 (halfVal by_ s.1 w) ∧ (∀ (i : Nat) (p : Pr), i < s.1 → w[i]? = some p → p.1.length ≤ s.2) ∧ s.2 ≤ 1000) (fun s => w.length - s.1) (0, 0) (by repeat (first | exact True.intro | refine ⟨rfl, ?_⟩)) ⟨Nat.zero_le _, hk2, by rw [show halfVal by_ 0 w = w from rfl]; exact hO2, fun i p h => by simp at h, by simp⟩ ?_
    rintro ⟨j, lg⟩ H3 ⟨hj, hk3, hO3, hlg, hlg2⟩
    dsimp only at hj hO3 hlg hlg2 ⊢
    have hs3 := hk3.size
    have sV := hO3.ps.sl
    rw [halfVal_len] at sV
    refine zrun ?_ ?_
    refine cw_cond rfl (fun hjl => ?_) (fun hjl => ?_) <;> (try simp at hjl)
    · obtain ⟨p, hp⟩ : ∃ p, w[j]? = some p := ⟨_, List.getElem?_eq_getElem (by omega)⟩
      have hpk := hF.key p (List.mem_of_getElem? hp)
      obtain ⟨k3, x3, y3, z3⟩ := hO3.ps.at_ j p (halfVal_at hp)
      obtain ⟨z, hz1, hz2, hz3⟩ := hO3.store (halfVal_at hp)
      refine zrun ?_ ?_
      refine x_load rfl rfl (hpmt (y3)) rfl trivial ?_
      refine zrun ?_ ?_
      refine x_store rfl rfl rfl rfl hz1 hz2 trivial ?_
      intro H4 hB4 hk4 hs4
      refine ⟨trivial, ?_⟩
      have hO4 : Po H1.size H4 v9 (halfVal by_ (j + 1) w) := by
        rw [← halfVal_set hp]
        exact hz3 H4 _ hB4 hk4
      have hvf := hO3.fresh (by have := sV.cap.1; omega)
      have hk14 : Keep Non H1 H4 := keep_at hk3 hk4 hvf
      obtain ⟨k4, x4, _, z4⟩ := hO4.ps.at_ j (newVal by_ p) (by
        unfold halfVal
        rw [List.getElem?_append_left (by rw [List.length_map, List.length_take]; omega), List.getElem?_map, List.getElem?_take, if_pos (by omega), hp]
        rfl)
      have sK4 : IsSl k4 p.1.length := z4.sl
      refine zrun ?_ ?_
      refine x_load rfl rfl (hpmt (x4)) rfl trivial ?_
      refine zrun ?_ ?_
      refine x_max rfl rfl rfl rfl trivial ?_
      rw [show max (lg : Int) (p.1.length : Int) = ((max lg p.1.length : Nat) : Int) by omega]
      refine zrun ?_ ?_
      exact nw_round (j + 1, max lg p.1.length) (by repeat (first | exact True.intro | refine ⟨rfl, ?_⟩)) ⟨by simp only; omega, hk14, hO4, fun i p' hi hp' => by
        dsimp only at hi ⊢
        by_cases e : i = j
        · subst e; rw [hp] at hp'; injection hp' with hp'; rw [← hp']; omega
        · have := hlg i p' (by omega) hp'; omega, by simp only; omega⟩ (by simp only; omega)
    · have hjl' : j = w.length := by omega
      subst hjl'
      have hhv : halfVal by_ w.length w = w.map (newVal by_) := by unfold halfVal; rw [List.take_length, List.drop_length, List.append_nil]
      rw [hhv] at hO3
      have hgk : ∀ p, (newVal by_ p).1 = p.1 := fun p => rfl
      have hF2 := hF.map hgk
      obtain ⟨m1, m2⟩ := ofC_map hgk tag w
      have hra := rdAll_ofC hF t1 t4
      have hrb := rdAll_ofC hF2 t1 t4
      have hod := ofD_le hF t1 t4
      have hlong : tag = 3 ∨ tag = 4 → ofD tag w ≤ lg + 2 := fun h => ofD_long hF h (fun p hp => by
        obtain ⟨i, hi⟩ := List.mem_iff_getElem?.1 hp
        exact hlg i p (List.getElem?_eq_some_iff.1 hi).1 hi)
      have hP3 := hP1.keepN hk3
      have hI3 := PIn.of hP3
      have hJ3 := PIn.of hO3.ps
      have hL3 := hL1.keepN hk3
      have u3 := hk3.cel u1 (fun h => h)
      refine zrun ?_ ?_
      refine x_load rfl rfl (hpmt (u3)) rfl trivial ?_
      refine zrun ?_ ?_
      refine x_call rfl rfl rfl trivial (ref11_Of t1 t4 hF hI3 (Nat.le_refl _)) ?_
      rintro va H4 ⟨hk4, hA4⟩
      refine ⟨trivial, ?_⟩
      have hs4 := hk4.size
      refine zrun ?_ ?_
      refine x_call rfl rfl rfl trivial (ref11_Of t1 t4 hF2 (hJ3.keepN hk4) (by omega)) ?_
      rintro vb H5 ⟨hk5, hB5⟩
      refine ⟨trivial, ?_⟩
      have hs5 := hk5.size
      have hSa := sit_of hF (hA4.keepN hk5) (by omega) ((hL3.keepN hk4).keepN hk5)
      have hSb := sit_of hF2 hB5 (by omega) ((hL3.keepN hk4).keepN hk5)
      have sA := hA4.sl
      have sB := hB5.sl
      rw [m1] at sB
      refine zrun ?_ ?_
      refine x_call rfl rfl rfl trivial (shpPairs (tag := tag) hSa) ?_
      rintro vx H6 ⟨hk6, hX6⟩
      rw [hra] at hX6
      refine ⟨trivial, ?_⟩
      have hs6 := hk6.size
      refine zrun ?_ ?_
      refine x_call rfl rfl rfl trivial (shpPairs (tag := tag) (hSb.keepN hk6)) ?_
      rintro vy H7 ⟨hk7, hY7⟩
      rw [hrb] at hY7
      refine ⟨trivial, ?_⟩
      have hs7 := hk7.size
      have hX6 : PoS (fun z => H5.size ≤ z) H6 vx w := hX6
      have hY7 : PoS (fun z => H6.size ≤ z) H7 vy (w.map (newVal by_)) := hY7
      have hk37 := ((hk4.non_trans hk5).non_trans hk6).non_trans hk7
      have u7 := hk37.cel u3 (fun h => h)
      have hX7 := hX6.keepN hk7
      refine zrun ?_ ?_
      refine x_false 75 rfl (by simp) ?_
      refine zrun ?_ ?_
      refine x_load rfl rfl (hpmt (u7)) rfl trivial ?_
      refine zrun ?_ ?_
      refine x_call rfl rfl rfl trivial (law_SamePairs hX7.ps (hP3.keepN hk37)) ?_
      rintro _ _ ⟨rfl, rfl⟩
      refine ⟨trivial, ?_⟩
      rw [decide_eq_true rfl]
      refine zrun ?_ ?_
      refine x_call rfl rfl rfl trivial (law_SamePairs hY7.ps (hO3.ps.keepN hk37)) ?_
      rintro _ _ ⟨rfl, rfl⟩
      refine ⟨trivial, ?_⟩
      rw [decide_eq_true rfl]
      refine zrun ?_ ?_
      have hX67 : PoS (fun z => H5.size ≤ z ∧ z < H6.size) H7 vx w := (hX6.mono (fun z hz hl => ⟨hz, hl⟩)).keepN hk7
      refine x_call rfl rfl rfl trivial (law_OverPairsS hX67 (by omega) (fun p hp => by have := hF.key p hp; omega)) ?_
      rintro _ H8 ⟨rfl, hk8⟩
      refine ⟨trivial, ?_⟩
      have hoff : ∀ z, z < H5.size → ¬ (H5.size ≤ z ∧ z < H6.size) := fun z hz e => by omega
      have hSa8 := (hSa.keepN (hk6.non_trans hk7)).keepS hk8 hoff
      have hSb8 := (hSb.keepN (hk6.non_trans hk7)).keepS hk8 hoff
      have hk38 : Keep Non H3 H8 := hk37.old hk8 (fun z hz e => by omega)
      have hP8 := hP3.keepN hk38
      have u8 := hk38.cel u3 (fun h => h)
      refine zrun ?_ ?_
      refine x_call rfl rfl rfl trivial (shpDeep (tag := tag) hSa8) ?_
      rintro _ H9 ⟨hk9, rfl⟩
      rw [hra]
      refine ⟨trivial, ?_⟩
      have hSa9 := hSa8.keepN hk9
      have hSb9 := hSb8.keepN hk9
      have hk39 := hk38.non_trans hk9
      have u9 := hk39.cel u3 (fun h => h)
      have hkr := Keep.refl Non H9
      refine zrunc ?_ ?_
      refine cw_cut (fun e : Bool => [(6, .bool e)]) (fun e H' => Keep Non H9 H' ∧ e = true) ?_ ?_
      · refine cw_held (fun _ => Keep Non H9) ⟨[2, 7, 12, 36], [(6, 0)]⟩ (.op 0 (.op 1 (.op 3 (.op 4 (.op 5 (.op 6 (.op 2 (.op 7 (.op 8 (.op 9 (.op 10 (.op 11 (.op 12 (.op 13 (.op 14 (.op 15 (.op 16 (.op 17 (.op 18 (.op 19 (.op 20 (.op 21 (.op 22 (.op 23 (.op 24 (.op 25 (.op 26 (.op 27 (.op 28 (.op 29 (.op 30 (.op 31 (.op 32 (.op 33 (.op 34 (.op 35 (.op 36 (.op 37 (.op 38 (.nil)))))))))))))))))))))))))))))))))))))))) panicOk_body mixed (by kernel_rfl) ?_
        refine zhrun ?_ ?_
        refine x_load rfl rfl (hpmk rfl (fun _ hk => hk.cel u9 (fun h => h))) rfl (okq_load rfl rfl (by assumption)) ?_
        refine zhrun ?_ ?_
        refine x_call rfl rfl rfl ⟨rfl, rfl⟩ (shpPairs (tag := tag) hSa9) ?_
        rintro vz H10 ⟨hk10, hZ10⟩
        rw [hra] at hZ10
        have hZ10 : PoS (fun z => H9.size ≤ z) H10 vz w := hZ10
        refine ⟨okm_keep hk10 (fun _ _ h => h), ?_⟩
        refine zhrun ?_ ?_
        refine x_call rfl rfl rfl ⟨rfl, rfl⟩ (law_SamePairs hZ10.ps (hP3.keepN (hk39.non_trans hk10))) ?_
        rintro _ _ ⟨rfl, rfl⟩
        rw [decide_eq_true rfl]
        refine ⟨okm_keep (Keep.refl Non _) (fun _ _ h => h), ?_⟩
        refine zhrun ?_ ?_
        refine x_call rfl rfl rfl ⟨rfl, rfl⟩ (shpDeep (tag := tag) (hSb9.keepN hk10)) ?_
        rintro _ H11 ⟨hk11, rfl⟩
        rw [hrb]
        refine ⟨okm_keep hk11 (fun _ _ h => h), ?_⟩
        have m2' : (((some (⟨w.map (newVal by_), (ofC tag (w.map (newVal by_))).length, ofD tag (w.map (newVal by_))⟩ : PT)).getD {}).deep : Int) = (ofD tag w : Int) := by
          show ((ofD tag (w.map (newVal by_)) : Nat) : Int) = _
          rw [m2]
        rw [m2']
        have hdd : (((some (⟨w, (ofC tag w).length, ofD tag w⟩ : PT)).getD {}).deep : Int) = (ofD tag w : Int) := rfl
        rw [hdd]
        have hdl := hod.1
        refine zhfall ?_ ?_
        refine x_true 110 rfl (by simp) ?_
        refine zhfall ?_ ?_
        refine x_split 113 rfl (fun h2 => ?_) (fun h2 => ?_) <;> (try simp at h2)
        · refine zhfall ?_ ?_
          refine x_true 130 rfl (by simp; omega) ?_
          refine zhfall ?_ ?_
          refine x_call rfl rfl rfl ⟨rfl, rfl⟩ (awake11 ((hL3.keepN hk39).keepN (hk10.non_trans hk11))) ?_
          rintro _ H12 ⟨hk12, rfl⟩
          refine ⟨okm_keep hk12 (fun _ _ h => h), ?_⟩
          refine zhfall ?_ ?_
          exact nw_meet true (by repeat (first | exact True.intro | refine ⟨rfl, ?_⟩)) ⟨(hk10.non_trans hk11).non_trans hk12, rfl⟩
        · refine zhfall ?_ ?_
          refine x_split 117 rfl (fun h1 => ?_) (fun h1 => ?_) <;> (try simp at h1)
          · refine zhfall ?_ ?_
            refine x_true 130 rfl (by simp; omega) ?_
            refine zhfall ?_ ?_
            refine x_call rfl rfl rfl ⟨rfl, rfl⟩ (awake11 ((hL3.keepN hk39).keepN (hk10.non_trans hk11))) ?_
            rintro _ H12 ⟨hk12, rfl⟩
            refine ⟨okm_keep hk12 (fun _ _ h => h), ?_⟩
            refine zhfall ?_ ?_
            exact nw_meet true (by repeat (first | exact True.intro | refine ⟨rfl, ?_⟩)) ⟨(hk10.non_trans hk11).non_trans hk12, rfl⟩
          · have hlg3 := hlong (by omega)
            refine zhfall ?_ ?_
            refine x_true 124 rfl (by simp; omega) ?_
            refine zhfall ?_ ?_
            refine x_true 130 rfl (by simp; omega) ?_
            refine zhfall ?_ ?_
            refine x_call rfl rfl rfl ⟨rfl, rfl⟩ (awake11 ((hL3.keepN hk39).keepN (hk10.non_trans hk11))) ?_
            rintro _ H12 ⟨hk12, rfl⟩
            refine ⟨okm_keep hk12 (fun _ _ h => h), ?_⟩
            refine zhfall ?_ ?_
            exact nw_meet true (by repeat (first | exact True.intro | refine ⟨rfl, ?_⟩)) ⟨(hk10.non_trans hk11).non_trans hk12, rfl⟩
      rintro e H12 ⟨hk12, rfl⟩
      refine zrun ?_ ?_
      exact cw_ret1 rfl rfl ⟨rfl, (hk1.non_trans hk3).non_trans (hk39.non_trans hk12)⟩
end Go.Proofs.YtkdmcbacofafpaaDoor.X
