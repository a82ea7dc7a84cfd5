/- Chapter 11: ShapeTurned, walked. -/
import Derived.Test.YtkdmcbacofafpaaDoorL11d
namespace Go.Proofs.YtkdmcbacofafpaaDoor.X
open Go Go.Proofs
set_option linter.unusedVariables false
set_option linter.unusedSimpArgs false
set_option maxRecDepth 10000
set_option maxHeartbeats 4000000

theorem wrap_range (a : Int) : -9223372036854775808 ≤ IntKind.i64.wrap a ∧ IntKind.i64.wrap a ≤ 9223372036854775807 := by
  unfold IntKind.wrap
  simp only [IntKind.bits, IntKind.signed]
  simp
  omega
theorem u8_of (a : Int) : ∃ b : UInt8, IntKind.u8.wrap a = (b.toNat : Int) := by
  rw [wrap_u8_mod]
  refine ⟨UInt8.ofNat (a % 256).toNat, ?_⟩
  rw [UInt8.toNat_ofNat']
  omega
section
variable {B0 B : Nat} {H H' : Heap} {v : Value} {l : List Cel}
theorem CO.set {j : Nat} {c0 c : Cel} {y : Cel × Value × Value} (h : CO B0 B H v l) (hj : l[j]? = some c0) (hy : CelR (fun z => z < B0) H y c) (hB : B0 ≤ B) : ∃ z, Blk H (sb v) z ∧ so v + j * 9 + 9 ≤ z.length ∧ ∀ H', Blk H' (sb v) (putL z (so v + j * 9) (encC y)) → Keep (· = sb v) H H' → CO B0 B H' v (l.set j c) := by
  obtain ⟨q, ho, ha⟩ := h.row
  have hlt := (List.getElem?_eq_some_iff.1 hj).1
  have hlen := ha.len
  obtain ⟨z, h1, h2, h3⟩ := ho.stores j (encC y) rfl (by omega) hlt
  refine ⟨z, h1, h2, fun H' hB' hk => ?_⟩
  have hf := h.fresh (by have := ho.sl.cap.1; omega)
  have hoff : ∀ z, z < B0 → ¬ z = sb v := fun z hz e => by omega
  have := h3 H' hB'
  have hp : putL (rws encC q) (j * 9) (encC y) = rws encC (q.set j y) := rws_put encC_len q j y (by omega)
  rw [hp] at this
  exact ⟨⟨q.set j y, by rw [List.length_set]; exact this, (ha.mono fun _ _ hc => hc.step hk hoff (fun _ h => h)).set j (hy.step hk hoff (fun _ h => h))⟩, h.fresh⟩
theorem CO.sit (h : CO B0 B H v l) (hB : B0 ≤ H.size) (hl : l.length ≤ 1000) (hs : ∀ c ∈ l, SmallOne c) (hn : ∀ c ∈ l, NumC c) (hL : Laid H) : Sit H.size H v l :=
  let ⟨h1, h2⟩ := h.cr hB
  Sit.of hl hs hn h1 h2 hL.two (Nat.le_refl _) hL
/-- some of the cells, as they stand -/
theorem CO.part (h : CO B0 B H v l) {u : Value} {a b : Nat} (hu : IsSl u (b - a)) (hc : CutOf u v a 9) (hab : a ≤ b) (hb : b ≤ l.length) : ∃ q, Al (CelR (fun z => z < B0) H) q ((l.take b).drop a) ∧ Cels H (sb u) (so u) (rws encC q) := by
  obtain ⟨q, ho, ha⟩ := h.row
  have := Rd.cut (enc := encC) (R := CelR (fun z => z < B0) H) ⟨ho.sl, q, ha, ho.cels⟩ encC_len hu hc hab hb
  exact this.row
end
theorem law_sameS {tag : Int} {l : List Cel} {vc : Value} {B0 : Nat} {H : Heap} (h : Sit B0 H vc l) (hl : l.length ≤ 1000) (hs : ∀ c ∈ l, SmallOne c) : Ret Tryd.prog 10 [.int .i64 tag, vc] H (fun r H' => Keep Non H H' ∧ r = .bool true) := by
  have hsh := rdAll_short (tag := tag) h.ok
  have hm := manys_small hs
  exact law_same h (fun p hp => by have := hsh.1 p hp; omega) (by have := hsh.2; omega)
theorem walk_ShapeTurned {vp : Value} {l0 : List Pr} {tag0 at0 fd0 by_ : Int} {H : Heap} (hA : Ps H vp l0) (hL : Laid H) : Ret Tryd.prog 4 [.int .i64 tag0, vp, .int .i64 at0, .int .i64 fd0, .int .i64 by_] H (Yes H) := by
  refine ret_of Tryd.func4 rfl rfl rfl rfl ?_
  intro w0
  refine zrun ?_ ?_
  refine x_call rfl rfl rfl trivial (law_GreatPairs 40 20 (by omega) hA) ?_
  rintro _ _ ⟨rfl, bg, rfl, hbg⟩
  refine ⟨trivial, ?_⟩
  cases bg with
  | true =>
    refine zrun ?_ ?_
    refine x_call rfl rfl rfl trivial (awake11 hL) ?_
    rintro _ H1 ⟨hk1, rfl⟩
    refine ⟨trivial, ?_⟩
    refine zrun ?_ ?_
    exact cw_ret1 rfl rfl ⟨rfl, hk1⟩
  | false =>
    obtain ⟨hl40, hk20⟩ := hbg rfl
    have hF := few_new hl40 hk20
    obtain ⟨b1, b2⟩ := low_bd tag0 (m := 4) (by omega)
    refine zrun ?_ ?_
    refine x_call rfl rfl rfl trivial (law_LowF tag0 4 (by omega) H) ?_
    rintro _ _ ⟨rfl, rfl⟩
    refine ⟨trivial, ?_⟩
    generalize low tag0 4 = q at b1 b2 ⊢
    refine zrun ?_ ?_
    obtain ⟨tag, htag⟩ : ∃ tag, tag = 1 + q := ⟨_, rfl⟩
    rw [← htag]
    have t1 : 1 ≤ tag := by omega
    have t4 : tag ≤ 4 := by omega
    clear htag b1 b2
    refine zrun ?_ ?_
    refine x_call rfl rfl rfl trivial (ref_New hA (by omega) (fun p hp => by have := hk20 p hp; omega)) ?_
    rintro _ H1 ⟨hk1, b, rfl, hb, hM⟩
    refine ⟨trivial, ?_⟩
    generalize newM l0 = w at hF hM
    obtain ⟨u, hB1, hP1⟩ := hM.row
    have hI1 := PIn.of hP1
    have hL1 := hL.keepN hk1
    have hs1 := hk1.size
    have sU := hP1.sl
    have hw40 := hF.len
    have u1 : cel H1 b 0 = some u := by rw [hB1.cel]; rfl
    have hra := rdAll_ofC hF t1 t4
    have hg := ofC_g (tag := tag) hF
    have hlen := ofC_len (tag := tag) hF
    refine zrun ?_ ?_
    refine x_load rfl rfl (hpmt (u1)) rfl trivial ?_
    refine zrun ?_ ?_
    refine x_call rfl rfl rfl trivial (ref11_Of t1 t4 hF hI1 (Nat.le_refl _)) ?_
    rintro vc H2 ⟨hk2, hO2⟩
    refine ⟨trivial, ?_⟩
    have hs2 := hk2.size
    have hS2 := sit_of hF hO2 (by omega) (hL1.keepN hk2)
    have sC := hO2.sl
    have cC := sC.cap
    have u2 := hk2.cel u1 (fun h => h)
    have hkr := Keep.refl Non H2
    refine zrunc ?_ ?_
    refine cw_cut (fun e : Bool => [(0, .int .i64 tag), (2, .int .i64 at0), (3, .int .i64 fd0), (4, .int .i64 by_), (12, vc), (43, .bool e)]) (fun e H' => Keep Non H2 H' ∧ e = false) ?_ ?_
    · refine cw_held (fun _ => Keep Non H2) ⟨[2, 7, 12], [(11, 0)]⟩ (.op 0 (.op 1 (.op 2 (.op 3 (.op 4 (.op 5 (.op 6 (.op 8 (.op 9 (.op 10 (.op 11 (.op 7 (.op 12 (.op 13 (.op 14 (.nil)))))))))))))))) panicOk_body mixed (by kernel_rfl) ?_
      refine zhrun ?_ ?_
      refine x_call rfl rfl rfl ⟨rfl, rfl⟩ (shpSound (tag := tag) hS2) ?_
      rintro _ H3 ⟨hk3, rfl⟩
      rw [hra]
      refine ⟨okm_keep hk3 (fun _ _ h => h), ?_⟩
      have hkr := hk3
      refine zhrun ?_ ?_
      refine x_load rfl rfl (hpmk rfl (fun _ hk => hk.cel u2 (fun h => h))) rfl (okq_load rfl rfl (by assumption)) ?_
      refine zhrun ?_ ?_
      refine x_call rfl rfl rfl ⟨rfl, rfl⟩ (shpPairs (tag := tag) (hS2.keepN hk3)) ?_
      rintro vz H4 ⟨hk4, hZ4⟩
      rw [hra] at hZ4
      have hZ4 : PoS (fun z => H3.size ≤ z) H4 vz w := hZ4
      refine ⟨okm_keep hk4 (fun _ _ h => h), ?_⟩
      refine zhrun ?_ ?_
      refine x_call rfl rfl rfl ⟨rfl, rfl⟩ (law_SamePairs hZ4.ps (hP1.keepN ((hk2.non_trans hk3).non_trans hk4))) ?_
      rintro _ _ ⟨rfl, rfl⟩
      rw [decide_eq_true rfl]
      refine ⟨okm_keep (Keep.refl Non _) (fun _ _ h => h), ?_⟩
      refine zhrun ?_ ?_
      exact nw_meet false (by repeat (first | exact True.intro | refine ⟨rfl, ?_⟩)) ⟨hk3.non_trans hk4, rfl⟩
    rintro e H3 ⟨hk3, rfl⟩
    have hs3 := hk3.size
    have hO3 := hO2.keepN hk3
    have hL3 := (hL1.keepN hk2).keepN hk3
    have hk03 := (hk1.non_trans hk2).non_trans hk3
    generalize ofC tag w = cs at hO3 sC cC hg hlen
    clear hS2 hra hO2
    refine zrun ?_ ?_
    refine cw_cond rfl (fun h0 => ?_) (fun h0 => ?_) <;> (try simp at h0)
    · refine zrun ?_ ?_
      refine x_call rfl rfl rfl trivial (awake11 hL3) ?_
      rintro _ H4 ⟨hk4, rfl⟩
      refine ⟨trivial, ?_⟩
      refine zrun ?_ ?_
      exact cw_ret1 rfl rfl ⟨rfl, hk03.non_trans hk4⟩
    · have hpos : 0 < cs.length := by
        rcases Nat.eq_zero_or_pos cs.length with h | h
        · exfalso; have e := List.length_eq_zero_iff.1 h; first | exact h0 e | (rw [h] at h0; simp at h0)
        · exact h
      obtain ⟨b1, b2⟩ := low_bd at0 (m := (cs.length : Int)) (by omega)
      refine zrun ?_ ?_
      refine x_call rfl rfl rfl trivial (law_LowF at0 (cs.length : Int) (by omega) H3) ?_
      rintro _ _ ⟨rfl, rfl⟩
      refine ⟨trivial, ?_⟩
      obtain ⟨j, hj⟩ : ∃ j : Nat, low at0 (cs.length : Int) = (j : Int) := ⟨(low at0 (cs.length : Int)).toNat, by omega⟩
      rw [hj] at b1 b2 ⊢
      have hjl : j < cs.length := by omega
      obtain ⟨c0, hc0⟩ : ∃ c, cs[j]? = some c := ⟨_, List.getElem?_eq_getElem hjl⟩
      obtain ⟨q3, o3, a3⟩ := hO3.row
      have hR3 : Rd encC (CelR (fun z => z < H1.size) H3) H3 vc cs := ⟨o3.sl, q3, a3, o3.cels⟩
      obtain ⟨y, hy, hcels⟩ := Rd.cels hR3 encC_len hc0
      obtain ⟨e0, hy2⟩ := id hy
      subst e0
      have hgy := hg _ (List.mem_of_getElem? hc0)
      have hsy := hgy.small
      have hny := hgy.num
      refine zrun ?_ ?_
      refine x_loads (cs := encC y) rfl rfl rfl (hpmt hcels) rfl trivial ?_
      refine zrun ?_ ?_
      refine x_alloc rfl rfl trivial ?_
      intro H4 hn4
      refine ⟨trivial, ?_⟩
      have hs4 := hn4.size
      refine x_stores rfl rfl rfl rfl (CelR.oneC hy) hn4.blk (by simp [encC]) trivial ?_
      intro H5 hB5 hk5 hs5
      refine ⟨trivial, ?_⟩
      have hk35 : Keep Non H3 H5 := keep_at hn4.keep hk5 (Nat.le_refl _)
      have hB5 : Blk H5 H3.size (encC y) := hB5
      have D := celD_of hB5 rfl
      have hy5 : CelR (fun z => z < H5.size) H5 y y.1 := hy.step hk35 (fun _ _ h => h) (fun z hz => by omega)
      obtain ⟨f1, f2⟩ := low_bd fd0 (m := 10) (by omega)
      refine zrun ?_ ?_
      refine x_call rfl rfl rfl trivial (law_LowF fd0 10 (by omega) H5) ?_
      rintro _ _ ⟨rfl, rfl⟩
      refine ⟨trivial, ?_⟩
      generalize low fd0 10 = fd at f1 f2 ⊢
      refine zrun ?_ ?_
      refine cw_cond rfl (fun g0 => ?_) (fun g0 => ?_) <;> (try simp at g0)
      · refine zrun ?_ ?_
        refine x_load rfl rfl (hpmt (D.d0)) rfl trivial ?_
        refine zrun ?_ ?_
        refine x_store rfl rfl rfl rfl hB5 (by simp [encC]) trivial ?_
        intro Hm hBm hkm' hsm'
        refine ⟨trivial, ?_⟩
        have hkm : Keep Non H3 Hm := keep_at hk35 hkm' (Nat.le_refl _)
        have hyy := hy.step (W' := fun z => z < Hm.size) hkm (fun _ _ h => h) (fun z hz => by have := hkm.size; omega)
        have hym : CelR (fun z => z < Hm.size) Hm (({ y.1 with kind := IntKind.i64.wrap (y.1.kind + by_) } : Cel), y.2.1, y.2.2) _ := ⟨rfl, hyy.2.1, hyy.2.2.1, hyy.2.2.2⟩
        have hsm : SmallOne ({ y.1 with kind := IntKind.i64.wrap (y.1.kind + by_) } : Cel) := ⟨hsy.key, hsy.few, hsy.pair⟩
        have hnm : NumC ({ y.1 with kind := IntKind.i64.wrap (y.1.kind + by_) } : Cel) := ⟨wrap_range _, hny.at_, hny.kids⟩
        have hBm : Blk Hm H3.size (encC (({ y.1 with kind := IntKind.i64.wrap (y.1.kind + by_) } : Cel), y.2.1, y.2.2)) := hBm
        have hsm3 := hkm.size
        obtain ⟨q1, o1, a1⟩ := (hO3.keepN hkm).row
        have a1' : Al (CelR (fun z => z < Hm.size) Hm) q1 cs := a1.mono fun _ _ hc => hc.step (Keep.refl Non Hm) (fun _ _ h => h) (fun z hz => by omega)
        refine zrun ?_ ?_
        refine x_append (by rfl) (by rfl) (by rfl) rfl rfl rfl (Own.nil 9 Hm) sC (by rw [rws_length encC_len, a1.len]) o1.cels (al_oneC a1) (by omega) rfl trivial ?_
        intro v14 Ha hap
        refine ⟨trivial, ?_⟩
        have hOa : CO Hm.size Hm.size Ha v14 ([] ++ cs) := CO.app (l := []) (q := []) (Al.nil _) a1' (Fresh.nil Hm) (Nat.le_refl _) (Nat.le_refl _) hap
        have hka : Keep Non Hm Ha := hap.old (Fresh.nil Hm) (Keep.refl _ _)
        have hsa := hka.size
        have hya := hym.step (W' := fun z => z < Hm.size) hka (fun _ _ h => h) (fun _ h => h)
        obtain ⟨z, hz1, hz2, hz3⟩ := hOa.set (j := j) (c0 := y.1) hc0 hya (Nat.le_refl _)
        have s14 : IsSl v14 cs.length := hOa.sl
        have hBa := hBm.keep hka (fun h => h)
        refine zrun ?_ ?_
        refine x_loads (cs := encC (({ y.1 with kind := IntKind.i64.wrap (y.1.kind + by_) } : Cel), y.2.1, y.2.2)) rfl rfl rfl (hpmt (hBa.cels 0 9 (by simp [encC]))) rfl trivial ?_
        refine zrun ?_ ?_
        refine x_stores rfl rfl rfl rfl (CelR.oneC hya) hz1 hz2 trivial ?_
        intro Hb hBb hkb hsb
        refine ⟨trivial, ?_⟩
        have hOb := hz3 Hb hBb hkb
        have hf14 := hOa.fresh (by have := s14.cap.1; omega)
        have hkmb : Keep Non Hm Hb := keep_at hka hkb hf14
        have hLb := (hL3.keepN hkm).keepN hkmb
        have hsm2 : ∀ c ∈ (([] : List Cel) ++ cs).set j ({ y.1 with kind := IntKind.i64.wrap (y.1.kind + by_) } : Cel), SmallOne c ∧ NumC c := fun c hc => by
          rcases List.mem_or_eq_of_mem_set hc with h | h
          · exact ⟨(hg c h).small, (hg c h).num⟩
          · rw [h]; exact ⟨hsm, hnm⟩
        have hSb := hOb.sit (by omega) (by rw [List.length_set]; show cs.length ≤ 1000; omega) (fun c hc => (hsm2 c hc).1) (fun c hc => (hsm2 c hc).2) hLb
        refine zrun ?_ ?_
        refine x_call rfl rfl rfl trivial (law_sameS (tag := tag) hSb (by rw [List.length_set]; show cs.length ≤ 1000; omega) (fun c hc => (hsm2 c hc).1)) ?_
        rintro _ Hc ⟨hkc, rfl⟩
        refine ⟨trivial, ?_⟩
        refine zrun ?_ ?_
        refine x_call rfl rfl rfl trivial (awake11 (hLb.keepN hkc)) ?_
        rintro _ Hd ⟨hkd, rfl⟩
        refine ⟨trivial, ?_⟩
        refine zrun ?_ ?_
        exact cw_ret1 rfl rfl ⟨rfl, ((hk03.non_trans hkm).non_trans hkmb).non_trans (hkc.non_trans hkd)⟩
      · refine zrun ?_ ?_
        refine cw_cond rfl (fun g1 => ?_) (fun g1 => ?_) <;> (try simp at g1)
        · refine zrun ?_ ?_
          refine x_load rfl rfl (hpmt (D.d1)) rfl trivial ?_
          refine zrun ?_ ?_
          refine x_store rfl rfl rfl rfl hB5 (by simp [encC]) trivial ?_
          intro Hm hBm hkm' hsm'
          refine ⟨trivial, ?_⟩
          have hkm : Keep Non H3 Hm := keep_at hk35 hkm' (Nat.le_refl _)
          have hyy := hy.step (W' := fun z => z < Hm.size) hkm (fun _ _ h => h) (fun z hz => by have := hkm.size; omega)
          have hym : CelR (fun z => z < Hm.size) Hm (({ y.1 with at_ := IntKind.i64.wrap (y.1.at_ + by_) } : Cel), y.2.1, y.2.2) _ := ⟨rfl, hyy.2.1, hyy.2.2.1, hyy.2.2.2⟩
          have hsm : SmallOne ({ y.1 with at_ := IntKind.i64.wrap (y.1.at_ + by_) } : Cel) := ⟨hsy.key, hsy.few, hsy.pair⟩
          have hnm : NumC ({ y.1 with at_ := IntKind.i64.wrap (y.1.at_ + by_) } : Cel) := ⟨hny.kind, wrap_range _, hny.kids⟩
          have hBm : Blk Hm H3.size (encC (({ y.1 with at_ := IntKind.i64.wrap (y.1.at_ + by_) } : Cel), y.2.1, y.2.2)) := hBm
          have hsm3 := hkm.size
          obtain ⟨q1, o1, a1⟩ := (hO3.keepN hkm).row
          have a1' : Al (CelR (fun z => z < Hm.size) Hm) q1 cs := a1.mono fun _ _ hc => hc.step (Keep.refl Non Hm) (fun _ _ h => h) (fun z hz => by omega)
          refine zrun ?_ ?_
          refine x_append (by rfl) (by rfl) (by rfl) rfl rfl rfl (Own.nil 9 Hm) sC (by rw [rws_length encC_len, a1.len]) o1.cels (al_oneC a1) (by omega) rfl trivial ?_
          intro v14 Ha hap
          refine ⟨trivial, ?_⟩
          have hOa : CO Hm.size Hm.size Ha v14 ([] ++ cs) := CO.app (l := []) (q := []) (Al.nil _) a1' (Fresh.nil Hm) (Nat.le_refl _) (Nat.le_refl _) hap
          have hka : Keep Non Hm Ha := hap.old (Fresh.nil Hm) (Keep.refl _ _)
          have hsa := hka.size
          have hya := hym.step (W' := fun z => z < Hm.size) hka (fun _ _ h => h) (fun _ h => h)
          obtain ⟨z, hz1, hz2, hz3⟩ := hOa.set (j := j) (c0 := y.1) hc0 hya (Nat.le_refl _)
          have s14 : IsSl v14 cs.length := hOa.sl
          have hBa := hBm.keep hka (fun h => h)
          refine zrun ?_ ?_
          refine x_loads (cs := encC (({ y.1 with at_ := IntKind.i64.wrap (y.1.at_ + by_) } : Cel), y.2.1, y.2.2)) rfl rfl rfl (hpmt (hBa.cels 0 9 (by simp [encC]))) rfl trivial ?_
          refine zrun ?_ ?_
          refine x_stores rfl rfl rfl rfl (CelR.oneC hya) hz1 hz2 trivial ?_
          intro Hb hBb hkb hsb
          refine ⟨trivial, ?_⟩
          have hOb := hz3 Hb hBb hkb
          have hf14 := hOa.fresh (by have := s14.cap.1; omega)
          have hkmb : Keep Non Hm Hb := keep_at hka hkb hf14
          have hLb := (hL3.keepN hkm).keepN hkmb
          have hsm2 : ∀ c ∈ (([] : List Cel) ++ cs).set j ({ y.1 with at_ := IntKind.i64.wrap (y.1.at_ + by_) } : Cel), SmallOne c ∧ NumC c := fun c hc => by
            rcases List.mem_or_eq_of_mem_set hc with h | h
            · exact ⟨(hg c h).small, (hg c h).num⟩
            · rw [h]; exact ⟨hsm, hnm⟩
          have hSb := hOb.sit (by omega) (by rw [List.length_set]; show cs.length ≤ 1000; omega) (fun c hc => (hsm2 c hc).1) (fun c hc => (hsm2 c hc).2) hLb
          refine zrun ?_ ?_
          refine x_call rfl rfl rfl trivial (law_sameS (tag := tag) hSb (by rw [List.length_set]; show cs.length ≤ 1000; omega) (fun c hc => (hsm2 c hc).1)) ?_
          rintro _ Hc ⟨hkc, rfl⟩
          refine ⟨trivial, ?_⟩
          refine zrun ?_ ?_
          refine x_call rfl rfl rfl trivial (awake11 (hLb.keepN hkc)) ?_
          rintro _ Hd ⟨hkd, rfl⟩
          refine ⟨trivial, ?_⟩
          refine zrun ?_ ?_
          exact cw_ret1 rfl rfl ⟨rfl, ((hk03.non_trans hkm).non_trans hkmb).non_trans (hkc.non_trans hkd)⟩
        · refine zrun ?_ ?_
          refine cw_cond rfl (fun g2 => ?_) (fun g2 => ?_) <;> (try simp at g2)
          · refine zrun ?_ ?_
            refine x_load rfl rfl (hpmt (D.d2)) rfl trivial ?_
            refine zrun ?_ ?_
            refine x_store rfl rfl rfl rfl hB5 (by simp [encC]) trivial ?_
            intro Hm hBm hkm' hsm'
            refine ⟨trivial, ?_⟩
            have hkm : Keep Non H3 Hm := keep_at hk35 hkm' (Nat.le_refl _)
            have hyy := hy.step (W' := fun z => z < Hm.size) hkm (fun _ _ h => h) (fun z hz => by have := hkm.size; omega)
            have hym : CelR (fun z => z < Hm.size) Hm (({ y.1 with count := IntKind.i64.wrap (y.1.count + by_) } : Cel), y.2.1, y.2.2) _ := ⟨rfl, hyy.2.1, hyy.2.2.1, hyy.2.2.2⟩
            have hsm : SmallOne ({ y.1 with count := IntKind.i64.wrap (y.1.count + by_) } : Cel) := ⟨hsy.key, hsy.few, hsy.pair⟩
            have hnm : NumC ({ y.1 with count := IntKind.i64.wrap (y.1.count + by_) } : Cel) := ⟨hny.kind, hny.at_, hny.kids⟩
            have hBm : Blk Hm H3.size (encC (({ y.1 with count := IntKind.i64.wrap (y.1.count + by_) } : Cel), y.2.1, y.2.2)) := hBm
            have hsm3 := hkm.size
            obtain ⟨q1, o1, a1⟩ := (hO3.keepN hkm).row
            have a1' : Al (CelR (fun z => z < Hm.size) Hm) q1 cs := a1.mono fun _ _ hc => hc.step (Keep.refl Non Hm) (fun _ _ h => h) (fun z hz => by omega)
            refine zrun ?_ ?_
            refine x_append (by rfl) (by rfl) (by rfl) rfl rfl rfl (Own.nil 9 Hm) sC (by rw [rws_length encC_len, a1.len]) o1.cels (al_oneC a1) (by omega) rfl trivial ?_
            intro v14 Ha hap
            refine ⟨trivial, ?_⟩
            have hOa : CO Hm.size Hm.size Ha v14 ([] ++ cs) := CO.app (l := []) (q := []) (Al.nil _) a1' (Fresh.nil Hm) (Nat.le_refl _) (Nat.le_refl _) hap
            have hka : Keep Non Hm Ha := hap.old (Fresh.nil Hm) (Keep.refl _ _)
            have hsa := hka.size
            have hya := hym.step (W' := fun z => z < Hm.size) hka (fun _ _ h => h) (fun _ h => h)
            obtain ⟨z, hz1, hz2, hz3⟩ := hOa.set (j := j) (c0 := y.1) hc0 hya (Nat.le_refl _)
            have s14 : IsSl v14 cs.length := hOa.sl
            have hBa := hBm.keep hka (fun h => h)
            refine zrun ?_ ?_
            refine x_loads (cs := encC (({ y.1 with count := IntKind.i64.wrap (y.1.count + by_) } : Cel), y.2.1, y.2.2)) rfl rfl rfl (hpmt (hBa.cels 0 9 (by simp [encC]))) rfl trivial ?_
            refine zrun ?_ ?_
            refine x_stores rfl rfl rfl rfl (CelR.oneC hya) hz1 hz2 trivial ?_
            intro Hb hBb hkb hsb
            refine ⟨trivial, ?_⟩
            have hOb := hz3 Hb hBb hkb
            have hf14 := hOa.fresh (by have := s14.cap.1; omega)
            have hkmb : Keep Non Hm Hb := keep_at hka hkb hf14
            have hLb := (hL3.keepN hkm).keepN hkmb
            have hsm2 : ∀ c ∈ (([] : List Cel) ++ cs).set j ({ y.1 with count := IntKind.i64.wrap (y.1.count + by_) } : Cel), SmallOne c ∧ NumC c := fun c hc => by
              rcases List.mem_or_eq_of_mem_set hc with h | h
              · exact ⟨(hg c h).small, (hg c h).num⟩
              · rw [h]; exact ⟨hsm, hnm⟩
            have hSb := hOb.sit (by omega) (by rw [List.length_set]; show cs.length ≤ 1000; omega) (fun c hc => (hsm2 c hc).1) (fun c hc => (hsm2 c hc).2) hLb
            refine zrun ?_ ?_
            refine x_call rfl rfl rfl trivial (law_sameS (tag := tag) hSb (by rw [List.length_set]; show cs.length ≤ 1000; omega) (fun c hc => (hsm2 c hc).1)) ?_
            rintro _ Hc ⟨hkc, rfl⟩
            refine ⟨trivial, ?_⟩
            refine zrun ?_ ?_
            refine x_call rfl rfl rfl trivial (awake11 (hLb.keepN hkc)) ?_
            rintro _ Hd ⟨hkd, rfl⟩
            refine ⟨trivial, ?_⟩
            refine zrun ?_ ?_
            exact cw_ret1 rfl rfl ⟨rfl, ((hk03.non_trans hkm).non_trans hkmb).non_trans (hkc.non_trans hkd)⟩
          · refine zrun ?_ ?_
            refine cw_cond rfl (fun g3 => ?_) (fun g3 => ?_) <;> (try simp at g3)
            · refine zrun ?_ ?_
              refine x_load rfl rfl (hpmt (D.d3)) rfl trivial ?_
              refine zrun ?_ ?_
              refine x_store rfl rfl rfl rfl hB5 (by simp [encC]) trivial ?_
              intro Hm hBm hkm' hsm'
              refine ⟨trivial, ?_⟩
              have hkm : Keep Non H3 Hm := keep_at hk35 hkm' (Nat.le_refl _)
              have hyy := hy.step (W' := fun z => z < Hm.size) hkm (fun _ _ h => h) (fun z hz => by have := hkm.size; omega)
              have hym : CelR (fun z => z < Hm.size) Hm (({ y.1 with kids := IntKind.i64.wrap (y.1.kids + by_) } : Cel), y.2.1, y.2.2) _ := ⟨rfl, hyy.2.1, hyy.2.2.1, hyy.2.2.2⟩
              have hsm : SmallOne ({ y.1 with kids := IntKind.i64.wrap (y.1.kids + by_) } : Cel) := ⟨hsy.key, hsy.few, hsy.pair⟩
              have hnm : NumC ({ y.1 with kids := IntKind.i64.wrap (y.1.kids + by_) } : Cel) := ⟨hny.kind, hny.at_, wrap_range _⟩
              have hBm : Blk Hm H3.size (encC (({ y.1 with kids := IntKind.i64.wrap (y.1.kids + by_) } : Cel), y.2.1, y.2.2)) := hBm
              have hsm3 := hkm.size
              obtain ⟨q1, o1, a1⟩ := (hO3.keepN hkm).row
              have a1' : Al (CelR (fun z => z < Hm.size) Hm) q1 cs := a1.mono fun _ _ hc => hc.step (Keep.refl Non Hm) (fun _ _ h => h) (fun z hz => by omega)
              refine zrun ?_ ?_
              refine x_append (by rfl) (by rfl) (by rfl) rfl rfl rfl (Own.nil 9 Hm) sC (by rw [rws_length encC_len, a1.len]) o1.cels (al_oneC a1) (by omega) rfl trivial ?_
              intro v14 Ha hap
              refine ⟨trivial, ?_⟩
              have hOa : CO Hm.size Hm.size Ha v14 ([] ++ cs) := CO.app (l := []) (q := []) (Al.nil _) a1' (Fresh.nil Hm) (Nat.le_refl _) (Nat.le_refl _) hap
              have hka : Keep Non Hm Ha := hap.old (Fresh.nil Hm) (Keep.refl _ _)
              have hsa := hka.size
              have hya := hym.step (W' := fun z => z < Hm.size) hka (fun _ _ h => h) (fun _ h => h)
              obtain ⟨z, hz1, hz2, hz3⟩ := hOa.set (j := j) (c0 := y.1) hc0 hya (Nat.le_refl _)
              have s14 : IsSl v14 cs.length := hOa.sl
              have hBa := hBm.keep hka (fun h => h)
              refine zrun ?_ ?_
              refine x_loads (cs := encC (({ y.1 with kids := IntKind.i64.wrap (y.1.kids + by_) } : Cel), y.2.1, y.2.2)) rfl rfl rfl (hpmt (hBa.cels 0 9 (by simp [encC]))) rfl trivial ?_
              refine zrun ?_ ?_
              refine x_stores rfl rfl rfl rfl (CelR.oneC hya) hz1 hz2 trivial ?_
              intro Hb hBb hkb hsb
              refine ⟨trivial, ?_⟩
              have hOb := hz3 Hb hBb hkb
              have hf14 := hOa.fresh (by have := s14.cap.1; omega)
              have hkmb : Keep Non Hm Hb := keep_at hka hkb hf14
              have hLb := (hL3.keepN hkm).keepN hkmb
              have hsm2 : ∀ c ∈ (([] : List Cel) ++ cs).set j ({ y.1 with kids := IntKind.i64.wrap (y.1.kids + by_) } : Cel), SmallOne c ∧ NumC c := fun c hc => by
                rcases List.mem_or_eq_of_mem_set hc with h | h
                · exact ⟨(hg c h).small, (hg c h).num⟩
                · rw [h]; exact ⟨hsm, hnm⟩
              have hSb := hOb.sit (by omega) (by rw [List.length_set]; show cs.length ≤ 1000; omega) (fun c hc => (hsm2 c hc).1) (fun c hc => (hsm2 c hc).2) hLb
              refine zrun ?_ ?_
              refine x_call rfl rfl rfl trivial (law_sameS (tag := tag) hSb (by rw [List.length_set]; show cs.length ≤ 1000; omega) (fun c hc => (hsm2 c hc).1)) ?_
              rintro _ Hc ⟨hkc, rfl⟩
              refine ⟨trivial, ?_⟩
              refine zrun ?_ ?_
              refine x_call rfl rfl rfl trivial (awake11 (hLb.keepN hkc)) ?_
              rintro _ Hd ⟨hkd, rfl⟩
              refine ⟨trivial, ?_⟩
              refine zrun ?_ ?_
              exact cw_ret1 rfl rfl ⟨rfl, ((hk03.non_trans hkm).non_trans hkmb).non_trans (hkc.non_trans hkd)⟩
            · refine zrun ?_ ?_
              refine cw_cond rfl (fun g4 => ?_) (fun g4 => ?_) <;> (try simp at g4)
              · refine zrun ?_ ?_
                refine x_load rfl rfl (hpmt (D.d4)) rfl trivial ?_
                refine zrun ?_ ?_
                refine x_conv_int rfl rfl rfl trivial ?_
                refine zrun ?_ ?_
                obtain ⟨b8, hb8⟩ := u8_of ((y.1.byte.toNat : Int) + IntKind.u8.wrap by_)
                rw [hb8]
                refine x_store rfl rfl rfl rfl hB5 (by simp [encC]) trivial ?_
                intro Hm hBm hkm' hsm'
                refine ⟨trivial, ?_⟩
                have hkm : Keep Non H3 Hm := keep_at hk35 hkm' (Nat.le_refl _)
                have hyy := hy.step (W' := fun z => z < Hm.size) hkm (fun _ _ h => h) (fun z hz => by have := hkm.size; omega)
                have hym : CelR (fun z => z < Hm.size) Hm (({ y.1 with byte := b8 } : Cel), y.2.1, y.2.2) _ := ⟨rfl, hyy.2.1, hyy.2.2.1, hyy.2.2.2⟩
                have hsm : SmallOne ({ y.1 with byte := b8 } : Cel) := ⟨hsy.key, hsy.few, hsy.pair⟩
                have hnm : NumC ({ y.1 with byte := b8 } : Cel) := ⟨hny.kind, hny.at_, hny.kids⟩
                have hBm : Blk Hm H3.size (encC (({ y.1 with byte := b8 } : Cel), y.2.1, y.2.2)) := hBm
                have hsm3 := hkm.size
                obtain ⟨q1, o1, a1⟩ := (hO3.keepN hkm).row
                have a1' : Al (CelR (fun z => z < Hm.size) Hm) q1 cs := a1.mono fun _ _ hc => hc.step (Keep.refl Non Hm) (fun _ _ h => h) (fun z hz => by omega)
                refine zrun ?_ ?_
                refine x_append (by rfl) (by rfl) (by rfl) rfl rfl rfl (Own.nil 9 Hm) sC (by rw [rws_length encC_len, a1.len]) o1.cels (al_oneC a1) (by omega) rfl trivial ?_
                intro v14 Ha hap
                refine ⟨trivial, ?_⟩
                have hOa : CO Hm.size Hm.size Ha v14 ([] ++ cs) := CO.app (l := []) (q := []) (Al.nil _) a1' (Fresh.nil Hm) (Nat.le_refl _) (Nat.le_refl _) hap
                have hka : Keep Non Hm Ha := hap.old (Fresh.nil Hm) (Keep.refl _ _)
                have hsa := hka.size
                have hya := hym.step (W' := fun z => z < Hm.size) hka (fun _ _ h => h) (fun _ h => h)
                obtain ⟨z, hz1, hz2, hz3⟩ := hOa.set (j := j) (c0 := y.1) hc0 hya (Nat.le_refl _)
                have s14 : IsSl v14 cs.length := hOa.sl
                have hBa := hBm.keep hka (fun h => h)
                refine zrun ?_ ?_
                refine x_loads (cs := encC (({ y.1 with byte := b8 } : Cel), y.2.1, y.2.2)) rfl rfl rfl (hpmt (hBa.cels 0 9 (by simp [encC]))) rfl trivial ?_
                refine zrun ?_ ?_
                refine x_stores rfl rfl rfl rfl (CelR.oneC hya) hz1 hz2 trivial ?_
                intro Hb hBb hkb hsb
                refine ⟨trivial, ?_⟩
                have hOb := hz3 Hb hBb hkb
                have hf14 := hOa.fresh (by have := s14.cap.1; omega)
                have hkmb : Keep Non Hm Hb := keep_at hka hkb hf14
                have hLb := (hL3.keepN hkm).keepN hkmb
                have hsm2 : ∀ c ∈ (([] : List Cel) ++ cs).set j ({ y.1 with byte := b8 } : Cel), SmallOne c ∧ NumC c := fun c hc => by
                  rcases List.mem_or_eq_of_mem_set hc with h | h
                  · exact ⟨(hg c h).small, (hg c h).num⟩
                  · rw [h]; exact ⟨hsm, hnm⟩
                have hSb := hOb.sit (by omega) (by rw [List.length_set]; show cs.length ≤ 1000; omega) (fun c hc => (hsm2 c hc).1) (fun c hc => (hsm2 c hc).2) hLb
                refine zrun ?_ ?_
                refine x_call rfl rfl rfl trivial (law_sameS (tag := tag) hSb (by rw [List.length_set]; show cs.length ≤ 1000; omega) (fun c hc => (hsm2 c hc).1)) ?_
                rintro _ Hc ⟨hkc, rfl⟩
                refine ⟨trivial, ?_⟩
                refine zrun ?_ ?_
                refine x_call rfl rfl rfl trivial (awake11 (hLb.keepN hkc)) ?_
                rintro _ Hd ⟨hkd, rfl⟩
                refine ⟨trivial, ?_⟩
                refine zrun ?_ ?_
                exact cw_ret1 rfl rfl ⟨rfl, ((hk03.non_trans hkm).non_trans hkmb).non_trans (hkc.non_trans hkd)⟩
              · refine zrun ?_ ?_
                refine cw_cond rfl (fun g5 => ?_) (fun g5 => ?_) <;> (try simp at g5)
                · refine zrun ?_ ?_
                  refine x_load rfl rfl (hpmt (D.d5)) rfl trivial ?_
                  refine zrun ?_ ?_
                  refine x_store rfl rfl rfl rfl hB5 (by simp [encC]) trivial ?_
                  intro Hm hBm hkm' hsm'
                  refine ⟨trivial, ?_⟩
                  have hkm : Keep Non H3 Hm := keep_at hk35 hkm' (Nat.le_refl _)
                  have hyy := hy.step (W' := fun z => z < Hm.size) hkm (fun _ _ h => h) (fun z hz => by have := hkm.size; omega)
                  have hym : CelR (fun z => z < Hm.size) Hm (({ y.1 with full := !y.1.full } : Cel), y.2.1, y.2.2) _ := ⟨rfl, hyy.2.1, hyy.2.2.1, hyy.2.2.2⟩
                  have hsm : SmallOne ({ y.1 with full := !y.1.full } : Cel) := ⟨hsy.key, hsy.few, hsy.pair⟩
                  have hnm : NumC ({ y.1 with full := !y.1.full } : Cel) := ⟨hny.kind, hny.at_, hny.kids⟩
                  have hBm : Blk Hm H3.size (encC (({ y.1 with full := !y.1.full } : Cel), y.2.1, y.2.2)) := hBm
                  have hsm3 := hkm.size
                  obtain ⟨q1, o1, a1⟩ := (hO3.keepN hkm).row
                  have a1' : Al (CelR (fun z => z < Hm.size) Hm) q1 cs := a1.mono fun _ _ hc => hc.step (Keep.refl Non Hm) (fun _ _ h => h) (fun z hz => by omega)
                  refine zrun ?_ ?_
                  refine x_append (by rfl) (by rfl) (by rfl) rfl rfl rfl (Own.nil 9 Hm) sC (by rw [rws_length encC_len, a1.len]) o1.cels (al_oneC a1) (by omega) rfl trivial ?_
                  intro v14 Ha hap
                  refine ⟨trivial, ?_⟩
                  have hOa : CO Hm.size Hm.size Ha v14 ([] ++ cs) := CO.app (l := []) (q := []) (Al.nil _) a1' (Fresh.nil Hm) (Nat.le_refl _) (Nat.le_refl _) hap
                  have hka : Keep Non Hm Ha := hap.old (Fresh.nil Hm) (Keep.refl _ _)
                  have hsa := hka.size
                  have hya := hym.step (W' := fun z => z < Hm.size) hka (fun _ _ h => h) (fun _ h => h)
                  obtain ⟨z, hz1, hz2, hz3⟩ := hOa.set (j := j) (c0 := y.1) hc0 hya (Nat.le_refl _)
                  have s14 : IsSl v14 cs.length := hOa.sl
                  have hBa := hBm.keep hka (fun h => h)
                  refine zrun ?_ ?_
                  refine x_loads (cs := encC (({ y.1 with full := !y.1.full } : Cel), y.2.1, y.2.2)) rfl rfl rfl (hpmt (hBa.cels 0 9 (by simp [encC]))) rfl trivial ?_
                  refine zrun ?_ ?_
                  refine x_stores rfl rfl rfl rfl (CelR.oneC hya) hz1 hz2 trivial ?_
                  intro Hb hBb hkb hsb
                  refine ⟨trivial, ?_⟩
                  have hOb := hz3 Hb hBb hkb
                  have hf14 := hOa.fresh (by have := s14.cap.1; omega)
                  have hkmb : Keep Non Hm Hb := keep_at hka hkb hf14
                  have hLb := (hL3.keepN hkm).keepN hkmb
                  have hsm2 : ∀ c ∈ (([] : List Cel) ++ cs).set j ({ y.1 with full := !y.1.full } : Cel), SmallOne c ∧ NumC c := fun c hc => by
                    rcases List.mem_or_eq_of_mem_set hc with h | h
                    · exact ⟨(hg c h).small, (hg c h).num⟩
                    · rw [h]; exact ⟨hsm, hnm⟩
                  have hSb := hOb.sit (by omega) (by rw [List.length_set]; show cs.length ≤ 1000; omega) (fun c hc => (hsm2 c hc).1) (fun c hc => (hsm2 c hc).2) hLb
                  refine zrun ?_ ?_
                  refine x_call rfl rfl rfl trivial (law_sameS (tag := tag) hSb (by rw [List.length_set]; show cs.length ≤ 1000; omega) (fun c hc => (hsm2 c hc).1)) ?_
                  rintro _ Hc ⟨hkc, rfl⟩
                  refine ⟨trivial, ?_⟩
                  refine zrun ?_ ?_
                  refine x_call rfl rfl rfl trivial (awake11 (hLb.keepN hkc)) ?_
                  rintro _ Hd ⟨hkd, rfl⟩
                  refine ⟨trivial, ?_⟩
                  refine zrun ?_ ?_
                  exact cw_ret1 rfl rfl ⟨rfl, ((hk03.non_trans hkm).non_trans hkmb).non_trans (hkc.non_trans hkd)⟩
                · refine zrun ?_ ?_
                  refine cw_cond rfl (fun g6 => ?_) (fun g6 => ?_) <;> (try simp at g6)
                  · refine zrun ?_ ?_
                    refine x_load rfl rfl (hpmt (D.d6)) rfl trivial ?_
                    refine zrun ?_ ?_
                    refine x_conv_int rfl rfl rfl trivial ?_
                    refine zrun ?_ ?_
                    refine x_store rfl rfl rfl rfl hB5 (by simp [encC]) trivial ?_
                    intro Hm hBm hkm' hsm'
                    refine ⟨trivial, ?_⟩
                    have hkm : Keep Non H3 Hm := keep_at hk35 hkm' (Nat.le_refl _)
                    have hyy := hy.step (W' := fun z => z < Hm.size) hkm (fun _ _ h => h) (fun z hz => by have := hkm.size; omega)
                    have hym : CelR (fun z => z < Hm.size) Hm (({ y.1 with val := IntKind.u64.wrap (y.1.val + IntKind.u64.wrap by_) } : Cel), y.2.1, y.2.2) _ := ⟨rfl, hyy.2.1, hyy.2.2.1, hyy.2.2.2⟩
                    have hsm : SmallOne ({ y.1 with val := IntKind.u64.wrap (y.1.val + IntKind.u64.wrap by_) } : Cel) := ⟨hsy.key, hsy.few, hsy.pair⟩
                    have hnm : NumC ({ y.1 with val := IntKind.u64.wrap (y.1.val + IntKind.u64.wrap by_) } : Cel) := ⟨hny.kind, hny.at_, hny.kids⟩
                    have hBm : Blk Hm H3.size (encC (({ y.1 with val := IntKind.u64.wrap (y.1.val + IntKind.u64.wrap by_) } : Cel), y.2.1, y.2.2)) := hBm
                    have hsm3 := hkm.size
                    obtain ⟨q1, o1, a1⟩ := (hO3.keepN hkm).row
                    have a1' : Al (CelR (fun z => z < Hm.size) Hm) q1 cs := a1.mono fun _ _ hc => hc.step (Keep.refl Non Hm) (fun _ _ h => h) (fun z hz => by omega)
                    refine zrun ?_ ?_
                    refine x_append (by rfl) (by rfl) (by rfl) rfl rfl rfl (Own.nil 9 Hm) sC (by rw [rws_length encC_len, a1.len]) o1.cels (al_oneC a1) (by omega) rfl trivial ?_
                    intro v14 Ha hap
                    refine ⟨trivial, ?_⟩
                    have hOa : CO Hm.size Hm.size Ha v14 ([] ++ cs) := CO.app (l := []) (q := []) (Al.nil _) a1' (Fresh.nil Hm) (Nat.le_refl _) (Nat.le_refl _) hap
                    have hka : Keep Non Hm Ha := hap.old (Fresh.nil Hm) (Keep.refl _ _)
                    have hsa := hka.size
                    have hya := hym.step (W' := fun z => z < Hm.size) hka (fun _ _ h => h) (fun _ h => h)
                    obtain ⟨z, hz1, hz2, hz3⟩ := hOa.set (j := j) (c0 := y.1) hc0 hya (Nat.le_refl _)
                    have s14 : IsSl v14 cs.length := hOa.sl
                    have hBa := hBm.keep hka (fun h => h)
                    refine zrun ?_ ?_
                    refine x_loads (cs := encC (({ y.1 with val := IntKind.u64.wrap (y.1.val + IntKind.u64.wrap by_) } : Cel), y.2.1, y.2.2)) rfl rfl rfl (hpmt (hBa.cels 0 9 (by simp [encC]))) rfl trivial ?_
                    refine zrun ?_ ?_
                    refine x_stores rfl rfl rfl rfl (CelR.oneC hya) hz1 hz2 trivial ?_
                    intro Hb hBb hkb hsb
                    refine ⟨trivial, ?_⟩
                    have hOb := hz3 Hb hBb hkb
                    have hf14 := hOa.fresh (by have := s14.cap.1; omega)
                    have hkmb : Keep Non Hm Hb := keep_at hka hkb hf14
                    have hLb := (hL3.keepN hkm).keepN hkmb
                    have hsm2 : ∀ c ∈ (([] : List Cel) ++ cs).set j ({ y.1 with val := IntKind.u64.wrap (y.1.val + IntKind.u64.wrap by_) } : Cel), SmallOne c ∧ NumC c := fun c hc => by
                      rcases List.mem_or_eq_of_mem_set hc with h | h
                      · exact ⟨(hg c h).small, (hg c h).num⟩
                      · rw [h]; exact ⟨hsm, hnm⟩
                    have hSb := hOb.sit (by omega) (by rw [List.length_set]; show cs.length ≤ 1000; omega) (fun c hc => (hsm2 c hc).1) (fun c hc => (hsm2 c hc).2) hLb
                    refine zrun ?_ ?_
                    refine x_call rfl rfl rfl trivial (law_sameS (tag := tag) hSb (by rw [List.length_set]; show cs.length ≤ 1000; omega) (fun c hc => (hsm2 c hc).1)) ?_
                    rintro _ Hc ⟨hkc, rfl⟩
                    refine ⟨trivial, ?_⟩
                    refine zrun ?_ ?_
                    refine x_call rfl rfl rfl trivial (awake11 (hLb.keepN hkc)) ?_
                    rintro _ Hd ⟨hkd, rfl⟩
                    refine ⟨trivial, ?_⟩
                    refine zrun ?_ ?_
                    exact cw_ret1 rfl rfl ⟨rfl, ((hk03.non_trans hkm).non_trans hkmb).non_trans (hkc.non_trans hkd)⟩
                  · refine zrun ?_ ?_
                    refine cw_cond rfl (fun g7 => ?_) (fun g7 => ?_) <;> (try simp at g7)
                    · refine zrun ?_ ?_
                      refine x_load rfl rfl (hpmt (D.d7)) rfl trivial ?_
                      refine zrun ?_ ?_
                      have hkn : y.1.key.length ≤ 20 := hgy.key
                      have KB5 : Bs H5 y.2.1 y.1.key := hy5.2.1.1
                      have sK5 := KB5.sl
                      refine x_append (by rfl) (by rfl) (by rfl) rfl rfl rfl (Own.nil 1 H5) sK5 (by rw [bvs_length, Nat.mul_one]) KB5.at_ (bvs_oneC _) (by omega) rfl trivial ?_
                      intro v6 H6 hap6
                      refine ⟨trivial, ?_⟩
                      have hk56 : Keep Non H5 H6 := hap6.old (Fresh.nil H5) (Keep.refl _ _)
                      have hf6 := hap6.fresh (Fresh.nil H5) (Nat.le_refl _)
                      have hO6 : Own 1 H6 v6 y.1.key.length (bvs y.1.key) := by simpa using hap6.own
                      have hs6 := hk56.size
                      refine zrun ?_ ?_
                      refine x_conv_int rfl rfl rfl trivial ?_
                      obtain ⟨b8, hb8⟩ := u8_of by_
                      rw [hb8]
                      refine zrun ?_ ?_
                      refine x_buildSlice rfl rfl rfl rfl (by omega) (by simp [oneC, Value.oneCell']) rfl trivial ?_
                      intro H7 hn7
                      refine ⟨trivial, ?_⟩
                      have hs7 := hn7.size
                      refine zrun ?_ ?_
                      refine x_append (by rfl) (by rfl) (by rfl) rfl rfl rfl (hO6.keep (S := Non) hn7.keep (fun _ h => h)) (isSl_some (Nat.le_refl _) (by omega)) (m := 1) (cx := [bv b8]) rfl (hn7.blk.cels 0 1 (by simp)) (by simp [oneC, Value.oneCell']) (by omega) rfl trivial ?_
                      intro v8 H8 hap8
                      refine ⟨trivial, ?_⟩
                      have hs8 := hap8.keep.size
                      have hk58 : Keep Non H5 H8 := hap8.old hf6 (hk56.non_trans hn7.keep)
                      have hO8 : Own 1 H8 v8 (y.1.key ++ [b8]).length (bvs (y.1.key ++ [b8])) := by rw [bvs_append, List.length_append]; exact hap8.own
                      have hov8 := isSl_oneC hO8.sl
                      have hB8 := hB5.keep hk58 (fun h => h)
                      refine zrun ?_ ?_
                      refine x_store rfl rfl rfl hov8 hB8 (by simp [encC]) trivial ?_
                      intro Hm hBm hkm' hsm'
                      refine ⟨trivial, ?_⟩
                      have hkm : Keep Non H3 Hm := keep_at (hk35.non_trans hk58) hkm' (Nat.le_refl _)
                      have hyy := hy.step (W' := fun z => z < Hm.size) hkm (fun _ _ h => h) (fun z hz => by have := hkm.size; omega)
                      have hf8 := hap8.fresh hf6 (by omega)
                      have hOm : Own 1 Hm v8 (y.1.key ++ [b8]).length (bvs (y.1.key ++ [b8])) := hO8.keep hkm' (fun hc e => by have := hf8 hc; have e : sb v8 = H3.size := e; omega)
                      have hym : CelR (fun z => z < Hm.size) Hm (({ y.1 with key := y.1.key ++ [b8] } : Cel), v8, y.2.2) _ := ⟨rfl, ⟨hOm.bs, fun hne => hOm.bs.lt hne⟩, hyy.2.2.1, hyy.2.2.2⟩
                      have hsm : SmallOne ({ y.1 with key := y.1.key ++ [b8] } : Cel) := ⟨by show (y.1.key ++ [b8]).length ≤ 60; rw [List.length_append]; simp; omega, hsy.few, hsy.pair⟩
                      have hnm : NumC ({ y.1 with key := y.1.key ++ [b8] } : Cel) := ⟨hny.kind, hny.at_, hny.kids⟩
                      have hBm : Blk Hm H3.size (encC (({ y.1 with key := y.1.key ++ [b8] } : Cel), v8, y.2.2)) := hBm
                      have hsm3 := hkm.size
                      obtain ⟨q1, o1, a1⟩ := (hO3.keepN hkm).row
                      have a1' : Al (CelR (fun z => z < Hm.size) Hm) q1 cs := a1.mono fun _ _ hc => hc.step (Keep.refl Non Hm) (fun _ _ h => h) (fun z hz => by omega)
                      refine zrun ?_ ?_
                      refine x_append (by rfl) (by rfl) (by rfl) rfl rfl rfl (Own.nil 9 Hm) sC (by rw [rws_length encC_len, a1.len]) o1.cels (al_oneC a1) (by omega) rfl trivial ?_
                      intro v14 Ha hap
                      refine ⟨trivial, ?_⟩
                      have hOa : CO Hm.size Hm.size Ha v14 ([] ++ cs) := CO.app (l := []) (q := []) (Al.nil _) a1' (Fresh.nil Hm) (Nat.le_refl _) (Nat.le_refl _) hap
                      have hka : Keep Non Hm Ha := hap.old (Fresh.nil Hm) (Keep.refl _ _)
                      have hsa := hka.size
                      have hya := hym.step (W' := fun z => z < Hm.size) hka (fun _ _ h => h) (fun _ h => h)
                      obtain ⟨z, hz1, hz2, hz3⟩ := hOa.set (j := j) (c0 := y.1) hc0 hya (Nat.le_refl _)
                      have s14 : IsSl v14 cs.length := hOa.sl
                      have hBa := hBm.keep hka (fun h => h)
                      refine zrun ?_ ?_
                      refine x_loads (cs := encC (({ y.1 with key := y.1.key ++ [b8] } : Cel), v8, y.2.2)) rfl rfl rfl (hpmt (hBa.cels 0 9 (by simp [encC]))) rfl trivial ?_
                      refine zrun ?_ ?_
                      refine x_stores rfl rfl rfl rfl (CelR.oneC hya) hz1 hz2 trivial ?_
                      intro Hb hBb hkb hsb
                      refine ⟨trivial, ?_⟩
                      have hOb := hz3 Hb hBb hkb
                      have hf14 := hOa.fresh (by have := s14.cap.1; omega)
                      have hkmb : Keep Non Hm Hb := keep_at hka hkb hf14
                      have hLb := (hL3.keepN hkm).keepN hkmb
                      have hsm2 : ∀ c ∈ (([] : List Cel) ++ cs).set j ({ y.1 with key := y.1.key ++ [b8] } : Cel), SmallOne c ∧ NumC c := fun c hc => by
                        rcases List.mem_or_eq_of_mem_set hc with h | h
                        · exact ⟨(hg c h).small, (hg c h).num⟩
                        · rw [h]; exact ⟨hsm, hnm⟩
                      have hSb := hOb.sit (by omega) (by rw [List.length_set]; show cs.length ≤ 1000; omega) (fun c hc => (hsm2 c hc).1) (fun c hc => (hsm2 c hc).2) hLb
                      refine zrun ?_ ?_
                      refine x_call rfl rfl rfl trivial (law_sameS (tag := tag) hSb (by rw [List.length_set]; show cs.length ≤ 1000; omega) (fun c hc => (hsm2 c hc).1)) ?_
                      rintro _ Hc ⟨hkc, rfl⟩
                      refine ⟨trivial, ?_⟩
                      refine zrun ?_ ?_
                      refine x_call rfl rfl rfl trivial (awake11 (hLb.keepN hkc)) ?_
                      rintro _ Hd ⟨hkd, rfl⟩
                      refine ⟨trivial, ?_⟩
                      refine zrun ?_ ?_
                      exact cw_ret1 rfl rfl ⟨rfl, ((hk03.non_trans hkm).non_trans hkmb).non_trans (hkc.non_trans hkd)⟩
                    · refine zrun ?_ ?_
                      have hO5 := hO3.keepN hk35
                      have hL5 := hL3.keepN hk35
                      refine cw_cond rfl (fun g8 => ?_) (fun g8 => ?_) <;> (try simp at g8)
                      · refine zrunc ?_ ?_
                        refine cw_held (fun _ _ => True) ⟨[4, 9, 10, 12], []⟩ (.op 0 (.op 1 (.op 2 (.op 3 (.op 5 (.op 6 (.op 7 (.op 8 (.op 4 (.op 9 (.op 10 (.op 11 (.op 12 (.op 13 (.op 14 (.nil)))))))))))))))) panicOk_body mixed (by kernel_rfl) ?_
                        refine zhrun ?_ ?_
                        refine x_slice_h rfl rfl rfl sC (by omega) (by omega) rfl (okq_reg rfl rfl) ?_
                        intro ua hua hcua
                        obtain ⟨qa, ala, cla⟩ := hO5.part (a := 0) (b := j) hua hcua (by omega) (by omega)
                        rw [List.drop_zero] at ala
                        refine zhrun ?_ ?_
                        refine x_slice_l rfl rfl rfl sC (by omega) (by omega) rfl (okq_reg rfl rfl) ?_
                        intro ub hub hcub
                        obtain ⟨qb, alb, clb⟩ := hO5.part (a := j + 1) (b := cs.length) hub hcub (by omega) (Nat.le_refl _)
                        rw [List.take_length] at alb
                        have la : (cs.take j).length = j := by rw [List.length_take]; omega
                        have lb : (cs.drop (j + 1)).length = cs.length - (j + 1) := List.length_drop
                        have ala' : Al (CelR (fun z => z < H5.size) H5) qa (cs.take j) := ala.mono fun _ _ hc => hc.step (Keep.refl Non H5) (fun _ _ h => h) (fun z hz => by omega)
                        have alb' : Al (CelR (fun z => z < H5.size) H5) qb (cs.drop (j + 1)) := alb.mono fun _ _ hc => hc.step (Keep.refl Non H5) (fun _ _ h => h) (fun z hz => by omega)
                        have sua : IsSl ua (cs.take j).length := by rw [la]; exact hua
                        have sub' : IsSl ub (cs.drop (j + 1)).length := by rw [lb]; exact hub
                        refine zhrun ?_ ?_
                        refine x_append (by rfl) (by rfl) (by rfl) rfl rfl rfl (Own.nil 9 H5) sua (by rw [rws_length encC_len, ala.len]) cla (al_oneC ala) (by omega) rfl ⟨rfl, rfl⟩ ?_
                        intro v6 H6 hap6
                        refine ⟨okm_nil rfl, ?_⟩
                        have hO6 : CO H5.size H5.size H6 v6 ([] ++ cs.take j) := CO.app (l := []) (q := []) (Al.nil _) ala' (Fresh.nil H5) (Nat.le_refl _) (Nat.le_refl _) hap6
                        have hk56 : Keep Non H5 H6 := hap6.old (Fresh.nil H5) (Keep.refl _ _)
                        have hs6 := hk56.size
                        obtain ⟨q6, o6, a6⟩ := hO6.row
                        have alb6 : Al (CelR (fun z => z < H5.size) H6) qb (cs.drop (j + 1)) := alb'.mono fun _ _ hc => hc.step hk56 (fun _ _ h => h) (fun _ h => h)
                        refine zhrun ?_ ?_
                        refine x_append (by rfl) (by rfl) (by rfl) rfl rfl rfl o6 sub' (by rw [rws_length encC_len, alb.len]) (clb.keep hk56 (fun _ h => h)) (al_oneC alb) (by rw [List.length_append, List.length_nil]; omega) rfl ⟨rfl, rfl⟩ ?_
                        intro v7 H7 hap7
                        refine ⟨okm_nil rfl, ?_⟩
                        have hO7 : CO H5.size H5.size H7 v7 _ := CO.app a6 alb6 hO6.fresh (Nat.le_refl _) (by omega) hap7
                        have hk57 : Keep Non H5 H7 := hap7.old (fun hc => hO6.fresh hc) hk56
                        have hs7 := hk57.size
                        have hL7 := hL5.keepN hk57
                        have hmem : ∀ c ∈ (([] : List Cel) ++ cs.take j) ++ cs.drop (j + 1), c ∈ cs := fun c hc => by
                          rcases List.mem_append.1 hc with h | h
                          · exact List.mem_of_mem_take h
                          · exact List.mem_of_mem_drop h
                        have hll : ((([] : List Cel) ++ cs.take j) ++ cs.drop (j + 1)).length ≤ 1000 := by rw [List.length_append, List.length_append, List.length_nil]; omega
                        have hS7 := hO7.sit hs7 hll (fun c hc => (hg c (hmem c hc)).small) (fun c hc => (hg c (hmem c hc)).num) hL7
                        refine zhrun ?_ ?_
                        refine x_call rfl rfl rfl ⟨rfl, rfl⟩ (law_sameS (tag := tag) hS7 hll (fun c hc => (hg c (hmem c hc)).small)) ?_
                        rintro _ H8 ⟨hk8, rfl⟩
                        refine ⟨okm_nil rfl, ?_⟩
                        refine zhrun ?_ ?_
                        refine x_call rfl rfl rfl ⟨rfl, rfl⟩ (awake11 (hL7.keepN hk8)) ?_
                        rintro _ H9 ⟨hk9, rfl⟩
                        refine ⟨okm_nil rfl, ?_⟩
                        refine zhrun ?_ ?_
                        refine zrun ?_ ?_
                        exact cw_ret1 rfl rfl ⟨rfl, ((hk03.non_trans hk35).non_trans hk57).non_trans (hk8.non_trans hk9)⟩
                      · have hkr := Keep.refl Non H5
                        refine zrunc ?_ ?_
                        refine cw_held (fun _ => Keep Non H5) ⟨[4, 6, 7, 11, 12, 14], [(5, 0)]⟩ (.op 0 (.op 1 (.op 2 (.op 3 (.op 5 (.op 8 (.op 9 (.op 10 (.alt (.op 4 (.op 6 (.op 7 (.op 11 (.op 12 (.op 13 (.op 14 (.op 15 (.op 16 (.nil)))))))))) (.op 6 (.op 4 (.op 7 (.op 11 (.op 12 (.op 13 (.op 14 (.op 15 (.op 16 (.nil))))))))))))))))))) panicOk_body mixed (by kernel_rfl) ?_
                        refine zhrun ?_ ?_
                        refine x_slice_h rfl rfl rfl sC (by omega) (by omega) rfl (okq_reg rfl rfl) ?_
                        intro ua hua hcua
                        obtain ⟨qa, ala, cla⟩ := hO5.part (a := 0) (b := j) hua hcua (by omega) (by omega)
                        rw [List.drop_zero] at ala
                        refine zhrun ?_ ?_
                        refine x_loads (cs := encC y) rfl rfl rfl (hpmk rfl (fun _ hk => (hB5.cels 0 9 (by simp [encC])).keep hk (fun _ h => h))) rfl (okq_load rfl rfl (by assumption)) ?_
                        refine zhrun ?_ ?_
                        refine x_slice_l rfl rfl rfl sC (by omega) (by omega) rfl (okq_reg rfl rfl) ?_
                        intro ub hub hcub
                        obtain ⟨qb, alb, clb⟩ := hO5.part (a := j) (b := cs.length) hub hcub (by omega) (Nat.le_refl _)
                        rw [List.take_length] at alb
                        have la : (cs.take j).length = j := by rw [List.length_take]; omega
                        have lb : (cs.drop j).length = cs.length - j := List.length_drop
                        have ala' : Al (CelR (fun z => z < H5.size) H5) qa (cs.take j) := ala.mono fun _ _ hc => hc.step (Keep.refl Non H5) (fun _ _ h => h) (fun z hz => by omega)
                        have alb' : Al (CelR (fun z => z < H5.size) H5) qb (cs.drop j) := alb.mono fun _ _ hc => hc.step (Keep.refl Non H5) (fun _ _ h => h) (fun z hz => by omega)
                        have sua : IsSl ua (cs.take j).length := by rw [la]; exact hua
                        have sub' : IsSl ub (cs.drop j).length := by rw [lb]; exact hub
                        have hmem : ∀ c ∈ ((([] : List Cel) ++ cs.take j) ++ [y.1]) ++ cs.drop j, c ∈ cs := fun c hc => by
                          rcases List.mem_append.1 hc with h | h
                          · rcases List.mem_append.1 h with h | h
                            · exact List.mem_of_mem_take h
                            · rw [List.mem_singleton.1 h]; exact List.mem_of_getElem? hc0
                          · exact List.mem_of_mem_drop h
                        have hll : (((([] : List Cel) ++ cs.take j) ++ [y.1]) ++ cs.drop j).length ≤ 1000 := by rw [List.length_append, List.length_append, List.length_append, List.length_nil, List.length_singleton]; omega
                        refine zhrun ?_ ?_
                        refine x_alt ?_ ?_
                        · refine x_append (by rfl) (by rfl) (by rfl) rfl rfl rfl (Own.nil 9 H5) sua (by rw [rws_length encC_len, ala.len]) cla (al_oneC ala) (by omega) rfl ⟨rfl, rfl⟩ ?_
                          intro v6 H6 hap6
                          have hk56 : Keep Non H5 H6 := hap6.old (Fresh.nil H5) (Keep.refl _ _)
                          refine ⟨okm_keep hk56 (fun _ _ h => h), ?_⟩
                          have hO6 : CO H5.size H5.size H6 v6 ([] ++ cs.take j) := CO.app (l := []) (q := []) (Al.nil _) ala' (Fresh.nil H5) (Nat.le_refl _) (Nat.le_refl _) hap6
                          have hs6 := hk56.size
                          refine zhrun ?_ ?_
                          refine x_buildSliceS1 (by rfl) rfl rfl (by omega) (by rfl) rfl ⟨rfl, rfl⟩ ?_
                          intro H7 hn7
                          refine ⟨okm_keep hn7.keep (fun _ _ h => h), ?_⟩
                          have hs7 := hn7.size
                          have hk57 := hk56.non_trans hn7.keep
                          have hO7 := hO6.keepN hn7.keep
                          have hb7 : Cels H7 H6.size 0 (rws encC [y]) := by rw [rws_one]; exact hn7.blk.cels 0 9 (by simp [encC])
                          have s7 : IsSl (.slice (some ⟨H6.size, 0, none⟩) 1 1) 1 := isSl_some (Nat.le_refl _) (by omega)
                          have ay7 : Al (CelR (fun z => z < H5.size) H7) [y] [y.1] := Al.one (hy5.step hk57 (fun _ _ h => h) (fun _ h => h))
                          obtain ⟨q7, o7, a7⟩ := hO7.row
                          refine zhrun ?_ ?_
                          refine x_append (by rfl) (by rfl) (by rfl) rfl rfl rfl o7 s7 (by rfl) hb7 (al_oneC ay7) (by rw [List.length_append, List.length_nil]; omega) rfl ⟨rfl, rfl⟩ ?_
                          intro v8 H8 hap8
                          have hk58 : Keep Non H5 H8 := hap8.old (fun hc => hO7.fresh hc) hk57
                          refine ⟨okm_keep hap8.keep (fun z hz e => by have := hO7.fresh (by have := e.2; omega); have := e.1; omega), ?_⟩
                          have hO8 : CO H5.size H5.size H8 v8 _ := CO.app (lx := [y.1]) a7 ay7 hO7.fresh (Nat.le_refl _) (by omega) hap8
                          have hs8 := hk58.size
                          obtain ⟨q8, o8, a8⟩ := hO8.row
                          have alb8 : Al (CelR (fun z => z < H5.size) H8) qb (cs.drop j) := alb'.mono fun _ _ hc => hc.step hk58 (fun _ _ h => h) (fun _ h => h)
                          refine zhrun ?_ ?_
                          refine x_append (by rfl) (by rfl) (by rfl) rfl rfl rfl o8 sub' (by rw [rws_length encC_len, alb.len]) (clb.keep hk58 (fun _ h => h)) (al_oneC alb) (by rw [List.length_append, List.length_append, List.length_nil, List.length_singleton]; omega) rfl ⟨rfl, rfl⟩ ?_
                          intro v9 H9 hap9
                          have hk59 : Keep Non H5 H9 := hap9.old (fun hc => hO8.fresh hc) hk58
                          refine ⟨okm_keep hap9.keep (fun z hz e => by have := hO8.fresh (by have := e.2; omega); have := e.1; omega), ?_⟩
                          have hO9 : CO H5.size H5.size H9 v9 _ := CO.app a8 alb8 hO8.fresh (Nat.le_refl _) (by omega) hap9
                          have hs9 := hk59.size
                          have hL9 := hL5.keepN hk59
                          have hS9 := hO9.sit hs9 hll (fun c hc => (hg c (hmem c hc)).small) (fun c hc => (hg c (hmem c hc)).num) hL9
                          refine zhrun ?_ ?_
                          refine x_call rfl rfl rfl ⟨rfl, rfl⟩ (law_sameS (tag := tag) hS9 hll (fun c hc => (hg c (hmem c hc)).small)) ?_
                          rintro _ H10 ⟨hk10, rfl⟩
                          refine ⟨okm_keep hk10 (fun _ _ h => h), ?_⟩
                          refine zhrun ?_ ?_
                          refine x_call rfl rfl rfl ⟨rfl, rfl⟩ (awake11 (hL9.keepN hk10)) ?_
                          rintro _ H11 ⟨hk11, rfl⟩
                          refine ⟨okm_keep hk11 (fun _ _ h => h), ?_⟩
                          refine zhrun ?_ ?_
                          refine zrun ?_ ?_
                          exact cw_ret1 rfl rfl ⟨rfl, ((hk03.non_trans hk35).non_trans hk59).non_trans (hk10.non_trans hk11)⟩
                        · refine x_buildSliceS1 (by rfl) rfl rfl (by omega) (by rfl) rfl ⟨rfl, rfl⟩ ?_
                          intro H6 hn6
                          refine ⟨okm_keep hn6.keep (fun _ _ h => h), ?_⟩
                          have hs6 := hn6.size
                          have ala6 : Al (CelR (fun z => z < H5.size) H6) qa (cs.take j) := ala'.mono fun _ _ hc => hc.step hn6.keep (fun _ _ h => h) (fun _ h => h)
                          refine zhrun ?_ ?_
                          refine x_append (by rfl) (by rfl) (by rfl) rfl rfl rfl (Own.nil 9 H6) sua (by rw [rws_length encC_len, ala.len]) (cla.keep hn6.keep (fun _ h => h)) (al_oneC ala) (by omega) rfl ⟨rfl, rfl⟩ ?_
                          intro v6 H7 hap6
                          have hk67 : Keep Non H6 H7 := hap6.old (Fresh.nil H6) (Keep.refl _ _)
                          refine ⟨okm_keep hk67 (fun _ _ h => h), ?_⟩
                          have hs7 := hk67.size
                          have hk57 := hn6.keep.non_trans hk67
                          have hO7 : CO H5.size H5.size H7 v6 ([] ++ cs.take j) := CO.app (v := .slice none 0 0) (l := []) (q := []) (Al.nil _) ala6 (fun hc => by simp [sc] at hc) (Nat.le_refl _) (by omega) hap6
                          have hb7 : Cels H7 H5.size 0 (rws encC [y]) := by rw [rws_one]; exact (hn6.blk.cels 0 9 (by simp [encC])).keep hk67 (fun _ h => h)
                          have s7 : IsSl (.slice (some ⟨H5.size, 0, none⟩) 1 1) 1 := isSl_some (Nat.le_refl _) (by omega)
                          have ay7 : Al (CelR (fun z => z < H5.size) H7) [y] [y.1] := Al.one (hy5.step hk57 (fun _ _ h => h) (fun _ h => h))
                          obtain ⟨q7, o7, a7⟩ := hO7.row
                          refine zhrun ?_ ?_
                          refine x_append (by rfl) (by rfl) (by rfl) rfl rfl rfl o7 s7 (by rfl) hb7 (al_oneC ay7) (by rw [List.length_append, List.length_nil]; omega) rfl ⟨rfl, rfl⟩ ?_
                          intro v8 H8 hap8
                          have hk58 : Keep Non H5 H8 := hap8.old (fun hc => hO7.fresh hc) hk57
                          refine ⟨okm_keep hap8.keep (fun z hz e => by have := hO7.fresh (by have := e.2; omega); have := e.1; omega), ?_⟩
                          have hO8 : CO H5.size H5.size H8 v8 _ := CO.app (lx := [y.1]) a7 ay7 hO7.fresh (Nat.le_refl _) (by omega) hap8
                          have hs8 := hk58.size
                          obtain ⟨q8, o8, a8⟩ := hO8.row
                          have alb8 : Al (CelR (fun z => z < H5.size) H8) qb (cs.drop j) := alb'.mono fun _ _ hc => hc.step hk58 (fun _ _ h => h) (fun _ h => h)
                          refine zhrun ?_ ?_
                          refine x_append (by rfl) (by rfl) (by rfl) rfl rfl rfl o8 sub' (by rw [rws_length encC_len, alb.len]) (clb.keep hk58 (fun _ h => h)) (al_oneC alb) (by rw [List.length_append, List.length_append, List.length_nil, List.length_singleton]; omega) rfl ⟨rfl, rfl⟩ ?_
                          intro v9 H9 hap9
                          have hk59 : Keep Non H5 H9 := hap9.old (fun hc => hO8.fresh hc) hk58
                          refine ⟨okm_keep hap9.keep (fun z hz e => by have := hO8.fresh (by have := e.2; omega); have := e.1; omega), ?_⟩
                          have hO9 : CO H5.size H5.size H9 v9 _ := CO.app a8 alb8 hO8.fresh (Nat.le_refl _) (by omega) hap9
                          have hs9 := hk59.size
                          have hL9 := hL5.keepN hk59
                          have hS9 := hO9.sit hs9 hll (fun c hc => (hg c (hmem c hc)).small) (fun c hc => (hg c (hmem c hc)).num) hL9
                          refine zhrun ?_ ?_
                          refine x_call rfl rfl rfl ⟨rfl, rfl⟩ (law_sameS (tag := tag) hS9 hll (fun c hc => (hg c (hmem c hc)).small)) ?_
                          rintro _ H10 ⟨hk10, rfl⟩
                          refine ⟨okm_keep hk10 (fun _ _ h => h), ?_⟩
                          refine zhrun ?_ ?_
                          refine x_call rfl rfl rfl ⟨rfl, rfl⟩ (awake11 (hL9.keepN hk10)) ?_
                          rintro _ H11 ⟨hk11, rfl⟩
                          refine ⟨okm_keep hk11 (fun _ _ h => h), ?_⟩
                          refine zhrun ?_ ?_
                          refine zrun ?_ ?_
                          exact cw_ret1 rfl rfl ⟨rfl, ((hk03.non_trans hk35).non_trans hk59).non_trans (hk10.non_trans hk11)⟩
end Go.Proofs.YtkdmcbacofafpaaDoor.X
