/- Chapter 11, the laws' own parts: great, same, awake. -/
import Derived.Test.YtkdmcbacofafpaaDoorP11g
import Derived.Test.YtkdmcbacofafpaaDoorLow
namespace Go.Proofs.YtkdmcbacofafpaaDoor.X
open Go Go.Proofs
set_option linter.unusedVariables false
set_option linter.unusedSimpArgs false
set_option maxRecDepth 10000
set_option maxHeartbeats 4000000

structure SmallOne (c : Cel) : Prop where
  key : c.key.length ≤ 60
  few : c.pairs.length ≤ 12
  pair : ∀ p ∈ c.pairs, p.1.length ≤ 60
/-- the numbers of a cell are numbers of the program -/
structure NumC (c : Cel) : Prop where
  kind : -9223372036854775808 ≤ c.kind ∧ c.kind ≤ 9223372036854775807
  at_ : -9223372036854775808 ≤ c.at_ ∧ c.at_ ≤ 9223372036854775807
  kids : -9223372036854775808 ≤ c.kids ∧ c.kids ≤ 9223372036854775807
theorem manys_small {l : List Cel} (h : ∀ c ∈ l, SmallOne c) : manys l ≤ 13 * l.length := by
  induction l with
  | nil => simp [manys]
  | cons c l ih =>
    have h1 := ih (fun d hd => h d (List.mem_cons_of_mem _ hd))
    have h2 := (h c List.mem_cons_self).few
    have h3 : manys (c :: l) = c.many + manys l := by simp [manys]
    have h4 : c.many ≤ 13 := by unfold Cel.many; split <;> omega
    rw [h3, List.length_cons]
    omega
theorem CelsOk.of {l : List Cel} (hl : l.length ≤ 1000) (h : ∀ c ∈ l, SmallOne c) (hn : ∀ c ∈ l, NumC c) : CelsOk l :=
  ⟨fun c hc => by have := (h c hc).key; omega, fun c hc p hp => by have := (h c hc).pair p hp; omega, fun c hc => (hn c hc).at_, fun c hc => (hn c hc).kids, by omega, by have := manys_small h; omega⟩

theorem law_great {l : List Cel} {vc : Value} {B0 : Nat} {H : Heap} (hC : CR B0 H vc l) : Ret Tryd.prog 8 [vc, .int .i64 60] H (fun v H' => H = H' ∧ ∃ b, v = .bool b ∧ (b = false → l.length ≤ 60 ∧ ∀ c ∈ l, SmallOne c)) := by
  have sC := hC.sl
  have cC := sC.cap
  refine ret_of Tryd.func8 rfl rfl rfl rfl ?_
  intro w0
  refine zrun ?_ ?_
  refine cw_loop (fun j : Nat => [(0, vc), (1, .int .i64 60), (4, .bool false), (5, .int .i64 j)]) (fun j H' => H = H' ∧ j ≤ l.length ∧ ∀ i c, i < j → l[i]? = some c → SmallOne c) (fun j => l.length - j) 0 (by repeat (first | exact True.intro | refine ⟨rfl, ?_⟩)) ⟨rfl, Nat.zero_le _, fun i c h => by omega⟩ ?_
  rintro j _ ⟨rfl, hj, hall⟩
  refine zrun ?_ ?_
  refine x_split 10 rfl (fun h1 => ?_) (fun h1 => ?_) <;> (try simp at h1)
  · have hjl : j < l.length := by omega
    refine zrun ?_ ?_
    refine cw_cond rfl (fun h2 => ?_) (fun h2 => ?_) <;> (try simp at h2)
    · obtain ⟨c, hc⟩ : ∃ c, l[j]? = some c := ⟨_, List.getElem?_eq_getElem hjl⟩
      obtain ⟨y, hy, hcel⟩ := Rd.cel hC encC_len hc
      have q7 : cel H (sb vc) (so vc + j * 9 + 7) = some y.2.1 := by rw [hcel 7 (by omega)]; rfl
      have q8 : cel H (sb vc) (so vc + j * 9 + 8) = some y.2.2 := by rw [hcel 8 (by omega)]; rfl
      have sK := hy.2.1.1.sl
      have hP : Ps H y.2.2 c.pairs := hy.2.2.1.ps (fun _ _ h => h.1)
      refine zrun ?_ ?_
      refine x_load rfl rfl (hpmt (q7)) rfl trivial ?_
      refine zrun ?_ ?_
      refine x_split 25 rfl (fun h3 => ?_) (fun h3 => ?_) <;> (try simp at h3)
      · refine zrun ?_ ?_
        exact cw_ret1 rfl rfl ⟨rfl, true, rfl, fun e => by cases e⟩
      · refine zrun ?_ ?_
        refine x_load rfl rfl (hpmt (q8)) rfl trivial ?_
        refine zrun ?_ ?_
        refine x_call rfl rfl rfl trivial (law_GreatPairs 12 60 (by omega) hP) ?_
        rintro _ _ ⟨rfl, b, rfl, hb⟩
        refine ⟨trivial, ?_⟩
        cases b with
        | true =>
          refine zrun ?_ ?_
          exact cw_ret1 rfl rfl ⟨rfl, true, rfl, fun e => by cases e⟩
        | false =>
          obtain ⟨hb1, hb2⟩ := hb rfl
          refine zrun ?_ ?_
          exact nw_round (j + 1) (by repeat (first | exact True.intro | refine ⟨rfl, ?_⟩)) ⟨rfl, hjl, fun i d hi hd => by
            by_cases e : i = j
            · subst e
              rw [hc] at hd
              injection hd with hd
              subst hd
              exact ⟨by omega, hb1, hb2⟩
            · exact hall i d (by omega) hd⟩ (by omega)
    · refine zrun ?_ ?_
      exact cw_ret1 rfl rfl ⟨rfl, _, rfl, fun e => by simp at e; omega⟩
  · refine zrun ?_ ?_
    refine cw_ret1 rfl rfl ⟨rfl, _, rfl, fun e => ?_⟩
    have e := of_decide_eq_false e
    refine ⟨by omega, fun c hc => ?_⟩
    obtain ⟨i, hi⟩ := List.mem_iff_getElem?.1 hc
    exact hall i c (by have := (List.getElem?_eq_some_iff.1 hi).1; omega) hi

/-- what the law's calls of the program want -/
structure Sit (B0 : Nat) (H : Heap) (vc : Value) (l : List Cel) : Prop where
  ok : CelsOk l
  num : ∀ c ∈ l, NumC c
  row : CR B0 H vc l
  off : l ≠ [] → sb vc < B0
  two : 2 ≤ B0
  le : B0 ≤ H.size
  laid : Laid H
theorem Sit.keepS {B0 : Nat} {S : Nat → Prop} {H H' : Heap} {vc : Value} {l : List Cel} (h : Sit B0 H vc l) (k : Keep S H H') (hS : ∀ z, z < B0 → ¬ S z) : Sit B0 H' vc l :=
  ⟨h.ok, h.num, CR.keepS h.row h.off k hS, h.off, h.two, Nat.le_trans h.le k.size, h.laid.keepS k (hS _ (by have := h.two; omega)) (hS _ (by have := h.two; omega))⟩
theorem Sit.keepN {B0 : Nat} {H H' : Heap} {vc : Value} {l : List Cel} (h : Sit B0 H vc l) (k : Keep Non H H') : Sit B0 H' vc l := h.keepS k (fun _ _ h => h)
section
variable {tag : Int} {l : List Cel} {vc : Value} {B0 : Nat} {H : Heap}
theorem shpSound (h : Sit B0 H vc l) : Ret Tryd.prog 15 [.int .i64 tag, vc] H (fun r H' => Keep Non H H' ∧ r = .bool (rdAll tag l).isSome) := shp_Sound h.ok h.off h.two (fun c hc => (h.num c hc).kind) h.row h.le h.laid
theorem shpPairs (h : Sit B0 H vc l) : Ret Tryd.prog 17 [.int .i64 tag, vc] H (fun r H' => Keep Non H H' ∧ PoS (fun z => H.size ≤ z) H' r ((rdAll tag l).getD {}).P) := shp_Pairs h.ok h.off h.two (fun c hc => (h.num c hc).kind) h.row h.le h.laid
theorem shpDeep (h : Sit B0 H vc l) : Ret Tryd.prog 18 [.int .i64 tag, vc] H (fun r H' => Keep Non H H' ∧ r = .int .i64 ((rdAll tag l).getD {}).deep) := shp_Deep h.ok h.off h.two (fun c hc => (h.num c hc).kind) h.row h.le h.laid
theorem refAll (h : Sit B0 H vc l) : Ret Tryd.prog 22 [.int .i64 tag, vc] H (ReadA B0 (rdAll tag l) H) := ref11_All h.ok h.row h.le
/-- the keys of pairs that were read are of pairs that are short -/
theorem law_same (h : Sit B0 H vc l) (hkl : ∀ p ∈ ((rdAll tag l).getD {}).P, p.1.length ≤ 1000000) (hpl : ((rdAll tag l).getD {}).P.length ≤ 100000) : Ret Tryd.prog 10 [.int .i64 tag, vc] H (fun r H' => Keep Non H H' ∧ r = .bool true) := by
  generalize hR : rdAll tag l = R at hkl hpl
  refine ret_of Tryd.func10 rfl rfl rfl rfl ?_
  intro w0
  refine zrun ?_ ?_
  refine x_call rfl rfl rfl trivial (refAll h) ?_
  rintro _ H1 hr
  obtain ⟨hk1, v1, rfl, hV1⟩ := hr
  rw [hR] at hV1 ⊢
  refine ⟨trivial, ?_⟩
  have hov1 := isSl_oneC hV1.ps.sl
  have hs1 := hk1.size
  refine zrun ?_ ?_
  refine x_alloc rfl rfl trivial ?_
  intro H2 hn2
  refine ⟨trivial, ?_⟩
  have hs2 := hn2.size
  refine x_stores rfl rfl rfl rfl (oc_cons hov1 (oc_cons rfl (oc_cons rfl (oc_cons rfl oc_nil)))) hn2.blk (by simp) trivial ?_
  intro H3 hB3 hk3 hs3
  refine ⟨trivial, ?_⟩
  have hk13 : Keep Non H1 H3 := keep_at hn2.keep hk3 (Nat.le_refl _)
  have hk03 := hk1.non_trans hk13
  have hB3 : Blk H3 H1.size [v1, .int .i64 (R.getD {}).next, .int .i64 (R.getD {}).deep, .bool R.isSome] := hB3
  have hV3 := hV1.keepN hk13
  refine zrun ?_ ?_
  refine x_call rfl rfl rfl trivial (shpPairs (tag := tag) (h.keepN hk03)) ?_
  rintro v4 H4 ⟨hk4, hV4⟩
  rw [hR] at hV4
  refine ⟨trivial, ?_⟩
  have hs4 := hk4.size
  have hk04 := hk03.non_trans hk4
  have hB4 := hB3.keep hk4 (fun h => h)
  have hV14 := hV3.keepN hk4
  have n0 : cel H4 H1.size 0 = some v1 := by rw [hB4.cel]; rfl
  have n2 : cel H4 H1.size 2 = some (.int .i64 (R.getD {}).deep) := by rw [hB4.cel]; rfl
  have n3 : cel H4 H1.size 3 = some (.bool R.isSome) := by rw [hB4.cel]; rfl
  refine zrunc ?_ ?_
  refine cw_cut (fun _ : Unit => [(0, .int .i64 tag), (1, vc), (5, ptr H1.size 0), (6, v4), (7, .bool true)]) (fun _ H' => Keep Non H4 H') ?_ ?_
  · have hkr := Keep.refl Non H4
    refine cw_held (fun _ => Keep Non H4) ⟨[2, 10, 15], [(4, 0), (9, 0), (17, 0)]⟩ (.op 0 (.op 1 (.op 3 (.op 4 (.op 2 (.op 5 (.op 6 (.op 7 (.op 8 (.op 9 (.op 10 (.op 11 (.op 12 (.op 13 (.op 14 (.op 16 (.op 17 (.op 15 (.op 18 (.op 19 (.op 20 (.nil)))))))))))))))))))))) panicOk_body mixed (by kernel_rfl) ?_
    refine zhrun ?_ ?_
    refine x_load rfl rfl (hpmk rfl (fun _ hk => hk.cel n3 (fun h => h))) rfl (okq_load rfl rfl (by assumption)) ?_
    refine zhrun ?_ ?_
    refine x_call rfl rfl rfl ⟨rfl, rfl⟩ (shpSound (tag := tag) (h.keepN hk04)) ?_
    rintro _ H5 ⟨hk5, rfl⟩
    rw [hR]
    refine ⟨okm_keep hk5 (fun _ _ h => h), ?_⟩
    have hkr := hk5
    refine zhrun ?_ ?_
    refine x_beq rfl rfl rfl rfl (okq_reg rfl rfl) ?_
    rw [beq_self_eq_true]
    refine zhrun ?_ ?_
    refine x_load rfl rfl (hpmk rfl (fun _ hk => hk.cel n0 (fun h => h))) rfl (okq_load rfl rfl (by assumption)) ?_
    refine zhrun ?_ ?_
    refine x_call rfl rfl rfl ⟨rfl, rfl⟩ (law_SamePairs (hV4.ps.keepN hk5) (hV14.ps.keepN hk5)) ?_
    rintro _ _ ⟨rfl, rfl⟩
    rw [decide_eq_true rfl]
    refine ⟨okm_keep (Keep.refl Non _) (fun _ _ h => h), ?_⟩
    refine zhrun ?_ ?_
    refine x_load rfl rfl (hpmk rfl (fun _ hk => hk.cel n2 (fun h => h))) rfl (okq_load rfl rfl (by assumption)) ?_
    refine zhrun ?_ ?_
    refine x_call rfl rfl rfl ⟨rfl, rfl⟩ (shpDeep (tag := tag) (h.keepN (hk04.non_trans hk5))) ?_
    rintro _ H6 ⟨hk6, rfl⟩
    rw [hR]
    refine ⟨okm_keep hk6 (fun _ _ h => h), ?_⟩
    refine zhrun ?_ ?_
    simp only [beq_self_eq_true]
    refine zhrun ?_ ?_
    exact nw_meet () (by repeat (first | exact True.intro | refine ⟨rfl, ?_⟩)) (hk5.non_trans hk6)
  rintro _ H5 hk5
  have hk05 := hk04.non_trans hk5
  have hs5 := hk5.size
  have hV15 := hV14.keepN hk5
  refine zrun ?_ ?_
  refine x_load rfl rfl (hpmt (hk5.cel n0 (fun h => h))) rfl trivial ?_
  refine zrun ?_ ?_
  refine x_call rfl rfl rfl trivial (law_Copied hV15.ps hpl hkl) ?_
  rintro v6 H6 ⟨hk6, hV6⟩
  refine ⟨trivial, ?_⟩
  have hs6 := hk6.size
  refine zrun ?_ ?_
  have hV46 : PoS (fun z => H3.size ≤ z ∧ z < H4.size) H6 v4 (R.getD {}).P := (hV4.mono (fun z hz hl => ⟨hz, hl⟩)).keepN (hk5.non_trans hk6)
  refine x_call rfl rfl rfl trivial (law_OverPairsS hV46 hpl hkl) ?_
  rintro _ H7 ⟨rfl, hk7⟩
  refine ⟨trivial, ?_⟩
  have hk07 : Keep Non H H7 := (hk05.non_trans hk6).old hk7 (fun z hz e => by have := e.1; have := hk03.size; omega)
  have hV67 : Po H5.size H7 v6 (R.getD {}).P := hV6.keep hk7 (fun z e => by have := e.2; omega)
  refine zrun ?_ ?_
  refine x_call rfl rfl rfl trivial (refAll (tag := tag) (h.keepN hk07)) ?_
  rintro _ H8 hr
  obtain ⟨hk8, v8, rfl, hV8⟩ := hr
  rw [hR] at hV8 ⊢
  refine ⟨trivial, ?_⟩
  refine zrun ?_ ?_
  refine x_field (cs := [v8, .int .i64 (R.getD {}).next, .int .i64 (R.getD {}).deep, .bool R.isSome]) rfl rfl rfl inferInstance rfl rfl trivial ?_
  refine zrun ?_ ?_
  refine x_call rfl rfl rfl trivial (law_SamePairs hV8.ps (hV67.ps.keepN hk8)) ?_
  rintro _ _ ⟨rfl, rfl⟩
  rw [decide_eq_true rfl]
  refine ⟨trivial, ?_⟩
  refine zrun ?_ ?_
  exact cw_ret1 rfl rfl ⟨hk07.non_trans hk8, rfl⟩
end
end Go.Proofs.YtkdmcbacofafpaaDoor.X
