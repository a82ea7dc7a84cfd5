/- Chapter 11: ShapeCounts, walked. -/
import Derived.Test.YtkdmcbacofafpaaDoorO11e
namespace Go.Proofs.YtkdmcbacofafpaaDoor.X
open Go Go.Proofs
set_option linter.unusedVariables false
set_option linter.unusedSimpArgs false
set_option maxRecDepth 10000
set_option maxHeartbeats 4000000

theorem PIn.of {H : Heap} {v : Value} {l : List Pr} (h : Ps H v l) : PIn H.size H v l := by
  obtain ⟨q, h1, h2⟩ := h.row
  refine ⟨⟨h.sl, q, h1.mono fun _ _ hb => ⟨hb, fun hne => hb.lt hne⟩, h2⟩, fun hne => ?_⟩
  obtain ⟨p, hp⟩ : ∃ p, l[0]? = some p := ⟨_, List.getElem?_eq_getElem (List.length_pos_iff.2 hne)⟩
  obtain ⟨k, hk, _⟩ := h.at_ 0 p hp
  exact lt_of_cel hk
theorem PIn.ps {B0 : Nat} {H : Heap} {v : Value} {l : List Pr} (h : PIn B0 H v l) : Ps H v l := h.row.ps (fun _ _ h => h.1)
theorem few_new {l : List Pr} (hl : l.length ≤ 40) (hk : ∀ p ∈ l, p.1.length ≤ 20) : Few (newM l) := ⟨newM_rises l, Nat.le_trans (newM_length l) hl, newM_keys hk⟩
theorem sit_of {B0 B : Nat} {H : Heap} {v : Value} {tag : Int} {l : List Pr} (hF : Few l) (hO : CO B0 B H v (ofC tag l)) (hB : B0 ≤ H.size) (hL : Laid H) : Sit H.size H v (ofC tag l) :=
  let ⟨h1, h2⟩ := hO.cr hB
  Sit.of (by have := ofC_len (tag := tag) hF; omega) (fun c hc => (ofC_g hF c hc).small) (fun c hc => (ofC_g hF c hc).num) h1 h2 hL.two (Nat.le_refl _) hL

theorem walk_ShapeCounts {vp : Value} {l0 : List Pr} {H : Heap} (hA : Ps H vp l0) (hL : Laid H) : Ret Tryd.prog 5 [vp] H (Yes H) := by
  refine ret_of Tryd.func5 rfl rfl rfl rfl ?_
  intro w0
  refine zrun ?_ ?_
  refine x_call rfl rfl rfl trivial (law_GreatPairs 40 20 (by omega) hA) ?_
  rintro _ _ ⟨rfl, bg, rfl, hbg⟩
  refine ⟨trivial, ?_⟩
  cases bg with
  | true =>
    refine zrun ?_ ?_
    refine x_call rfl rfl rfl trivial (awake11 hL) ?_
    rintro _ H1 ⟨hk1, rfl⟩
    refine ⟨trivial, ?_⟩
    refine zrun ?_ ?_
    exact cw_ret1 rfl rfl ⟨rfl, hk1⟩
  | false =>
    obtain ⟨hl40, hk20⟩ := hbg rfl
    have hF := few_new hl40 hk20
    refine zrun ?_ ?_
    refine x_call rfl rfl rfl trivial (ref_New hA (by omega) (fun p hp => by have := hk20 p hp; omega)) ?_
    rintro _ H1 ⟨hk1, b, rfl, hb, hM⟩
    refine ⟨trivial, ?_⟩
    generalize newM l0 = w at hF hM
    obtain ⟨u, hB1, hP1⟩ := hM.row
    have hI1 := PIn.of hP1
    have hL1 := hL.keepN hk1
    have sU := hP1.sl
    have hw40 := hF.len
    refine zrun ?_ ?_
    refine cw_loop (fun t : Nat => [(2, .bool false), (3, ptr b 0), (4, .int .i64 t)]) (fun t H' => Keep Non H1 H' ∧ 1 ≤ t ∧ t ≤ 5) (fun t => 5 - t) 1 (by repeat (first | exact True.intro | refine ⟨rfl, ?_⟩)) ⟨Keep.refl _ _, by omega, by omega⟩ ?_
    rintro t H2 ⟨hk2, ht1, ht5⟩
    have hs2 := hk2.size
    have hB2 := hB1.keep hk2 (fun h => h)
    have hI2 := hI1.keepN hk2
    have hL2 := hL1.keepN hk2
    have u2 : cel H2 b 0 = some u := by rw [hB2.cel]; rfl
    refine zrun ?_ ?_
    refine cw_cond rfl (fun hle => ?_) (fun hle => ?_) <;> (try simp at hle)
    · have ht4 : t ≤ 4 := by omega
      have hra := rdAll_ofC hF (tag := (t : Int)) (by omega) (by omega)
      have hod := ofD_le hF (tag := (t : Int)) (by omega) (by omega)
      refine zrun ?_ ?_
      refine x_load rfl rfl (hpmt (u2)) rfl trivial ?_
      refine zrun ?_ ?_
      refine x_call rfl rfl rfl trivial (ref11_Of (tag := (t : Int)) (by omega) (by omega) hF hI2 (by omega)) ?_
      rintro vc H3 ⟨hk3, hO3⟩
      refine ⟨trivial, ?_⟩
      have hs3 := hk3.size
      have hS3 := sit_of hF hO3 (by omega) (hL2.keepN hk3)
      have sC := hO3.sl
      have u3 := hk3.cel u2 (fun h => h)
      refine zrun ?_ ?_
      refine x_call rfl rfl rfl trivial (shpDeep (tag := (t : Int)) hS3) ?_
      rintro _ H4 ⟨hk4, rfl⟩
      rw [hra]
      refine ⟨trivial, ?_⟩
      have hS4 := hS3.keepN hk4
      have u4 := hk4.cel u3 (fun h => h)
      have hkr := Keep.refl Non H4
      refine zrunc ?_ ?_
      refine cw_cut (fun e : Bool => [(2, .bool false), (3, ptr b 0), (4, .int .i64 t), (5, vc), (58, .bool e)]) (fun e H' => Keep Non H4 H' ∧ e = false) ?_ ?_
      · refine cw_held (fun _ => Keep Non H4) ⟨[2, 24], [(16, 0), (29, 0)]⟩ (.op 0 (.op 1 (.op 2 (.op 3 (.op 4 (.op 5 (.op 6 (.op 7 (.op 8 (.op 9 (.op 10 (.op 11 (.op 12 (.op 13 (.op 14 (.op 15 (.op 16 (.op 17 (.op 18 (.op 19 (.op 20 (.op 21 (.op 22 (.op 23 (.op 26 (.op 27 (.op 28 (.op 29 (.op 30 (.op 24 (.op 25 (.op 31 (.op 32 (.nil)))))))))))))))))))))))))))))))))) panicOk_body mixed (by kernel_rfl) ?_
        refine zhrun ?_ ?_
        refine x_call rfl rfl rfl ⟨rfl, rfl⟩ (shpSound (tag := (t : Int)) hS4) ?_
        rintro _ H5 ⟨hk5, rfl⟩
        rw [hra]
        refine ⟨okm_keep hk5 (fun _ _ h => h), ?_⟩
        have hkr := hk5
        refine zhrun ?_ ?_
        refine x_false 36 rfl (by have := hod.1; simp; omega) ?_
        refine zhrun ?_ ?_
        refine x_load rfl rfl (hpmk rfl (fun _ hk => hk.cel u4 (fun h => h))) rfl (okq_load rfl rfl (by assumption)) ?_
        refine zhrun ?_ ?_
        refine x_bne rfl rfl rfl rfl (okq_reg rfl rfl) ?_
        refine zhrun ?_ ?_
        have hdz : ((((ofD (t : Int) w : Nat) : Int) == 0) == ((w.length : Int) == 0)) = true := by
          have := hod.2
          by_cases hw : w = []
          · rw [this.2 hw, hw]; rfl
          · have h1 : ¬ ofD (t : Int) w = 0 := fun e => hw (this.1 e)
            have h2 : ¬ w.length = 0 := fun e => hw (List.length_eq_zero_iff.1 e)
            have e1 : (((ofD (t : Int) w : Nat) : Int) == 0) = false := beq_eq_false_iff_ne.2 (by omega)
            have e2 : ((w.length : Int) == 0) = false := beq_eq_false_iff_ne.2 (by omega)
            rw [e1, e2]; rfl
        refine x_false 47 rfl (by first | (rw [show (some (⟨w, (ofC (t : Int) w).length, ofD (t : Int) w⟩ : PT)).getD {} = ⟨w, (ofC (t : Int) w).length, ofD (t : Int) w⟩ from rfl]; simp only [hdz, Bool.not_true]) | (dsimp only [Option.getD]; rw [hdz]; rfl)) ?_
        refine zhrun ?_ ?_
        refine x_load rfl rfl (hpmk rfl (fun _ hk => hk.cel u4 (fun h => h))) rfl (okq_load rfl rfl (by assumption)) ?_
        refine zhrun ?_ ?_
        refine x_call rfl rfl rfl ⟨rfl, rfl⟩ (shpPairs (tag := (t : Int)) (hS4.keepN hk5)) ?_
        rintro v6 H6 ⟨hk6, hV6⟩
        rw [hra] at hV6
        refine ⟨okm_keep hk6 (fun _ _ h => h), ?_⟩
        have sV : IsSl v6 w.length := hV6.ps.sl
        have hkr := hk5.non_trans hk6
        refine zhrun ?_ ?_
        refine nw_meet _ (by repeat (first | exact True.intro | refine ⟨rfl, ?_⟩)) ⟨hkr, ?_⟩
        simp
      rintro e H5 ⟨hk5, rfl⟩
      have hS5 := hS4.keepN hk5
      have hk15 : Keep Non H1 H5 := ((hk2.non_trans hk3).non_trans hk4).non_trans hk5
      refine zrun ?_ ?_
      refine cw_loop (fun o : Nat => [(2, .bool false), (3, ptr b 0), (4, .int .i64 t), (5, vc), (7, .int .i64 o)]) (fun o H' => Keep Non H5 H' ∧ 1 ≤ o ∧ o ≤ 5) (fun o => 5 - o) 1 (by repeat (first | exact True.intro | refine ⟨rfl, ?_⟩)) ⟨Keep.refl _ _, by omega, by omega⟩ ?_
      rintro o H6 ⟨hk6, ho1, ho5⟩
      have hS6 := hS5.keepN hk6
      refine zrun ?_ ?_
      refine cw_cond rfl (fun hol => ?_) (fun hol => ?_) <;> (try simp at hol)
      · have ho4 : o ≤ 4 := by omega
        refine zrunc ?_ ?_
        refine cw_cut (fun e : Bool => [(2, .bool false), (3, ptr b 0), (4, .int .i64 t), (5, vc), (7, .int .i64 o), (75, .bool e)]) (fun e H' => Keep Non H6 H' ∧ e = false) ?_ ?_
        · refine zrun ?_ ?_
          refine x_split 66 rfl (fun hot => ?_) (fun hot => ?_) <;> (try simp at hot)
          · have hne : (o : Int) ≠ t := by first | omega | (intro e; simp [e] at hot)
            refine zrun ?_ ?_
            refine x_split 71 rfl (fun hcl => ?_) (fun hcl => ?_) <;> (try simp at hcl)
            · have hw : w ≠ [] := fun e => by rw [e, ofC_nil] at hcl; simp at hcl
              have hro := rdAll_other hF (tag := (t : Int)) (other := (o : Int)) (by omega) (by omega) (by omega) (by omega) hne hw
              refine zrun ?_ ?_
              refine x_call rfl rfl rfl trivial (shpSound (tag := (o : Int)) hS6) ?_
              rintro _ H7 ⟨hk7, rfl⟩
              rw [hro]
              refine ⟨trivial, ?_⟩
              refine zrun ?_ ?_
              exact nw_meet false (by repeat (first | exact True.intro | refine ⟨rfl, ?_⟩)) ⟨hk7, rfl⟩
            · refine zrun ?_ ?_
              exact nw_meet false (by repeat (first | exact True.intro | refine ⟨rfl, ?_⟩)) ⟨Keep.refl _ _, rfl⟩
          · refine zrun ?_ ?_
            exact nw_meet false (by repeat (first | exact True.intro | refine ⟨rfl, ?_⟩)) ⟨Keep.refl _ _, rfl⟩
        rintro e H7 ⟨hk7, rfl⟩
        refine zrun ?_ ?_
        exact nw_round (o + 1) (by repeat (first | exact True.intro | refine ⟨rfl, ?_⟩)) ⟨hk6.non_trans hk7, by omega, by omega⟩ (by omega)
      · refine zrun ?_ ?_
        exact nw_round (t + 1) (by repeat (first | exact True.intro | refine ⟨rfl, ?_⟩)) ⟨hk15.non_trans hk6, by omega, by omega⟩ (by omega)
    · have hkr := Keep.refl Non H2
      have hcrit : ofC 1 w = critC w.length w := rfl
      refine zrunc ?_ ?_
      refine cw_cut (fun e : Bool => [(2, .bool e)]) (fun e H' => Keep Non H2 H' ∧ e = true) ?_ ?_
      · refine cw_held (fun _ => Keep Non H2) ⟨[11, 23], [(3, 0), (10, 0), (16, 0)]⟩ (.op 0 (.op 1 (.op 2 (.op 3 (.op 4 (.op 5 (.op 6 (.op 7 (.op 8 (.op 9 (.op 10 (.op 13 (.op 14 (.op 15 (.op 16 (.op 17 (.op 18 (.op 19 (.op 11 (.op 12 (.op 20 (.op 21 (.op 22 (.op 23 (.op 24 (.op 25 (.nil))))))))))))))))))))))))))) panicOk_body mixed (by kernel_rfl) ?_
        refine zhrun ?_ ?_
        refine x_load rfl rfl (hpmk rfl (fun _ hk => hk.cel u2 (fun h => h))) rfl (okq_load rfl rfl (by assumption)) ?_
        refine zhrun ?_ ?_
        refine x_split 82 rfl (fun hw0 => ?_) (fun hw0 => ?_) <;> (try simp at hw0)
        · refine zhfall ?_ ?_
          refine x_call rfl rfl rfl ⟨rfl, rfl⟩ (awake11 hL2) ?_
          rintro _ H5 ⟨hk5, rfl⟩
          refine ⟨okm_keep hk5 (fun _ _ h => h), ?_⟩
          refine zhfall ?_ ?_
          exact nw_meet true (by repeat (first | exact True.intro | refine ⟨rfl, ?_⟩)) ⟨hk5, rfl⟩
        · have hw : w ≠ [] := fun e => by rw [e] at hw0; simp at hw0
          have hcs := critOf_size hF.rise hw hF.may
          have hcs : (critC w.length w).length + 1 = 2 * w.length := hcs
          refine zhrun ?_ ?_
          refine x_load rfl rfl (hpmk rfl (fun _ hk => hk.cel u2 (fun h => h))) rfl (okq_load rfl rfl (by assumption)) ?_
          refine zhrun ?_ ?_
          refine x_load rfl rfl (hpmk rfl (fun _ hk => hk.cel u2 (fun h => h))) rfl (okq_load rfl rfl (by assumption)) ?_
          refine zhrun ?_ ?_
          refine x_call rfl rfl rfl ⟨rfl, rfl⟩ (ref11_CritOf w.length hF (Nat.le_refl _) hI2 (by omega)) ?_
          rintro v3 H3 ⟨hk3, hO3⟩
          refine ⟨okm_keep hk3 (fun _ _ h => h), ?_⟩
          have sO := hO3.sl
          refine zhrun ?_ ?_
          refine x_true 98 rfl (by first | (simp; omega) | (refine beq_iff_eq.2 ?_; omega)) ?_
          refine zhrun ?_ ?_
          refine x_call rfl rfl rfl ⟨rfl, rfl⟩ (awake11 (hL2.keepN hk3)) ?_
          rintro _ H5 ⟨hk5, rfl⟩
          refine ⟨okm_keep hk5 (fun _ _ h => h), ?_⟩
          refine zhrun ?_ ?_
          exact nw_meet true (by repeat (first | exact True.intro | refine ⟨rfl, ?_⟩)) ⟨hk3.non_trans hk5, rfl⟩
      rintro e H5 ⟨hk5, rfl⟩
      refine zrun ?_ ?_
      exact cw_ret1 rfl rfl ⟨rfl, (hk1.non_trans hk2).non_trans hk5⟩
end Go.Proofs.YtkdmcbacofafpaaDoor.X
