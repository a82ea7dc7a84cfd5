/- Chapter 11's document: what it reads of the cells of a crit-bit tree. -/
import Derived.Test.YtkdmcbacofafpaaDoorK11
import Derived.Test.YtkdmcbacofafpaaDoorRdb11
namespace Go.Proofs.YtkdmcbacofafpaaDoor.X
open Go Go.Proofs
set_option linter.unusedVariables false
set_option linter.unusedSimpArgs false
set_option maxRecDepth 10000
set_option maxHeartbeats 4000000

/-- what a call that reads answers: of what is none nothing but that is said -/
def ReadO (B0 : Nat) (o : Option PT) (H : Heap) (r : Value) (H' : Heap) : Prop := Keep Non H H' ∧ ∃ v n d P, r = .agg [v, .int .i64 n, .int .i64 d, .bool o.isSome].toArray ∧ RdV B0 H.size H' v P ∧ P.length ≤ 1000000 ∧ ∀ x, o = some x → n = (x.next : Int) ∧ d = (x.deep : Int) ∧ P = x.P
/-- the words of a cell -/
structure CelD (H : Heap) (b : Nat) (y : Cel × Value × Value) (c : Cel) : Prop where
  d0 : cel H b 0 = some (.int .i64 c.kind)
  d1 : cel H b 1 = some (.int .i64 c.at_)
  d2 : cel H b 2 = some (.int .i64 c.count)
  d3 : cel H b 3 = some (.int .i64 c.kids)
  d4 : cel H b 4 = some (kb c.byte)
  d5 : cel H b 5 = some (.bool c.full)
  d6 : cel H b 6 = some (.int .u64 c.val)
  d7 : cel H b 7 = some y.2.1
  d8 : cel H b 8 = some y.2.2
theorem celD_of {H : Heap} {b : Nat} {y : Cel × Value × Value} {c : Cel} (hB : Blk H b (encC y)) (h : y.1 = c) : CelD H b y c :=
  ⟨by rw [hB.cel, ← h]; rfl, by rw [hB.cel, ← h]; rfl, by rw [hB.cel, ← h]; rfl, by rw [hB.cel, ← h]; rfl, by rw [hB.cel, ← h]; rfl, by rw [hB.cel, ← h]; rfl, by rw [hB.cel, ← h]; rfl, by rw [hB.cel]; rfl, by rw [hB.cel]; rfl⟩
theorem CelD.keepN {H H' : Heap} {b : Nat} {y : Cel × Value × Value} {c : Cel} (h : CelD H b y c) (k : Keep Non H H') : CelD H' b y c :=
  ⟨k.cel h.d0 (fun h => h), k.cel h.d1 (fun h => h), k.cel h.d2 (fun h => h), k.cel h.d3 (fun h => h), k.cel h.d4 (fun h => h), k.cel h.d5 (fun h => h), k.cel h.d6 (fun h => h), k.cel h.d7 (fun h => h), k.cel h.d8 (fun h => h)⟩
theorem byte_zero {b : UInt8} : ((b.toNat : Int) == 0) = decide (b = 0) := by
  by_cases h : b = 0
  · subst h; rfl
  · rw [decide_eq_false h]
    have : b.toNat ≠ 0 := fun e => h (UInt8.toNat_inj.1 (by simpa using e))
    simpa using this

theorem ref11_bare {W : Nat → Prop} {H : Heap} {y : Cel × Value × Value} {c : Cel} (hy : CelR W H y c) : Ret Tryd.prog 44 [.agg (encC y).toArray, .bool true, .bool false, .bool false, .bool false, .bool false] H (fun v H' => Keep Non H H' ∧ v = .bool (decide (c.byte = 0 ∧ c.full = false ∧ c.val = 0 ∧ c.key = [] ∧ c.pairs = []))) := by
  have hyc := hy.1
  have sK := hy.2.1.1.sl
  have sP := hy.2.2.1.sl
  refine ret_of Tryd.func44 rfl rfl rfl rfl ?_
  intro w0
  refine zrun ?_ ?_
  refine x_box rfl rfl rfl trivial ?_
  intro H1 hn1
  refine ⟨trivial, ?_⟩
  have D := celD_of (hn1.blk : Blk H1 H.size (encC y)) hyc
  refine zrun ?_ ?_
  refine x_load rfl rfl (hpmt (D.d4)) rfl trivial ?_
  refine zrun ?_ ?_
  rw [byte_zero]
  refine x_split 27 rfl (fun g1 => ?_) (fun g1 => ?_) <;> (try simp at g1)
  · refine zrun ?_ ?_
    refine x_load rfl rfl (hpmt (D.d5)) rfl trivial ?_
    refine zrun ?_ ?_
    refine x_split 33 rfl (fun g2 => ?_) (fun g2 => ?_) <;> (try simp at g2)
    · refine zrun ?_ ?_
      refine x_load rfl rfl (hpmt (D.d6)) rfl trivial ?_
      refine zrun ?_ ?_
      refine x_split 40 rfl (fun g3 => ?_) (fun g3 => ?_) <;> (try simp at g3)
      · refine zrun ?_ ?_
        refine x_load rfl rfl (hpmt (D.d7)) rfl trivial ?_
        refine zrun ?_ ?_
        refine x_split 49 rfl (fun g4 => ?_) (fun g4 => ?_) <;> (try simp at g4)
        · refine zrun ?_ ?_
          refine x_load rfl rfl (hpmt (D.d8)) rfl trivial ?_
          refine zrun ?_ ?_
          refine cw_ret1 rfl rfl ⟨hn1.keep, ?_⟩
          congr 1
          rw [Bool.eq_iff_iff]
          simp_all
        · refine zrun ?_ ?_
          refine cw_ret1 rfl rfl ⟨hn1.keep, ?_⟩
          exact congrArg Value.bool (decide_eq_false (fun h => by simp_all)).symm
      · refine zrun ?_ ?_
        refine cw_ret1 rfl rfl ⟨hn1.keep, ?_⟩
        exact congrArg Value.bool (decide_eq_false (fun h => by simp_all)).symm
    · refine zrun ?_ ?_
      refine cw_ret1 rfl rfl ⟨hn1.keep, ?_⟩
      exact congrArg Value.bool (decide_eq_false (fun h => by simp_all)).symm
  · refine zrun ?_ ?_
    refine cw_ret1 rfl rfl ⟨hn1.keep, ?_⟩
    exact congrArg Value.bool (decide_eq_false (fun h => by simp_all)).symm
theorem ref11_Crit {l : List Cel} {vc : Value} {B0 : Nat} (hok : CelsOk l) : ∀ (f : Nat) {i : Nat} {above : Int} {H : Heap}, 0 < f → l.length < i + f → CR B0 H vc l → B0 ≤ H.size →
    Ret Tryd.prog 32 [vc, .int .i64 i, .int .i64 above] H (ReadO B0 (rdC f l i above) H) := by
  intro f
  induction f with
  | zero =>
    intro i above H hf0
    omega
  | succ f ih =>
    intro i above H hf0 hf hC hB
    have sC := hC.sl
    have cC := sC.cap
    have hll := hok.len
    obtain ⟨R, hR⟩ : ∃ R, R = rdC (f + 1) l i above := ⟨_, rfl⟩
    rw [← hR]
    refine ret_of Tryd.func32 rfl rfl rfl rfl ?_
    intro w0
    refine zrun ?_ ?_
    refine x_alloc rfl rfl trivial ?_
    intro H1 hn1
    refine ⟨trivial, ?_⟩
    have hC1 := CR.keepN hC hn1.keep
    have hB6 : Blk H1 H.size zR := hn1.blk
    have hs1 := hn1.size
    have hk1 := hn1.keep
    refine zrun ?_ ?_
    refine cw_cond rfl (fun h1 => ?_) (fun h1 => ?_) <;> (try simp at h1)
    · have hn : l[i]? = none := List.getElem?_eq_none (by omega)
      have hz : R = none := by rw [hR, rdC_none hn]
      refine zrun ?_ ?_
      refine x_build (cs := [.slice none 0 0, .int .i64 0, .int .i64 0, .bool false]) rfl rfl rfl ocp_nil rfl trivial ?_
      refine x_stores rfl rfl rfl rfl (by simp [oneC, Value.oneCell']) (hB6) (by simp [zR]) trivial ?_
      intro Hz hBz hkz hsz
      refine ⟨trivial, ?_⟩
      refine zrun ?_ ?_
      exact cw_retc rfl rfl rfl (hBz.cels 0 4 (by simp [putL, zR])) ⟨keep_at (hk1) hkz (Nat.le_refl _), .slice none 0 0, 0, 0, [], by rw [hz]; rfl, RdV.nil _ _ _, Nat.zero_le _, fun x hx => by rw [hz] at hx; cases hx⟩
    · obtain ⟨c, hc⟩ : ∃ c, l[i]? = some c := ⟨_, List.getElem?_eq_getElem (by omega)⟩
      obtain ⟨y, hy, hcels⟩ := Rd.cels hC1 encC_len hc
      have hyc := hy.1
      have hcm := List.mem_of_getElem? hc
      have hat := hok.at_ c hcm
      refine zrun ?_ ?_
      refine x_loads (cs := encC y) rfl rfl rfl (hpmt hcels) rfl trivial ?_
      refine x_alloc rfl rfl trivial ?_
      intro H2 hn2
      refine ⟨trivial, ?_⟩
      refine x_stores rfl rfl rfl rfl (CelR.oneC hy) hn2.blk (by simp [encC]) trivial ?_
      intro H3 hB7 hk3 hs3
      refine ⟨trivial, ?_⟩
      have hs2 := hn2.size
      have hk13 : Keep Non H1 H3 := keep_at hn2.keep hk3 (Nat.le_refl _)
      have hk03 := hk1.non_trans hk13
      have hC3 := CR.keepN hC hk03
      have hB63 : Blk H3 H.size zR := hB6.keep hk13 (fun h => h)
      have hy3 : CelR (fun z => z < B0) H3 y c := hy.step hk13 (fun _ _ h => h) (fun _ h => h)
      have hB73 : Blk H3 H1.size (encC y) := hB7
      have D := celD_of hB73 hyc
      have hK : Bs H3 y.2.1 c.key := hy3.2.1.1
      have hP3 : Ps H3 y.2.2 c.pairs := hy3.2.2.1.ps (fun _ _ h => h.1)
      have sK := hK.sl
      have sP := hP3.sl
      have cP := sP.cap
      have hRc : R = (open Classical in if Leaf c 1 then some ⟨[(c.key, c.val)], i + 1, 1⟩ else if InnerC c above then nodeC (fun n => rdC f l n c.at_) c i else none) := by
        rw [hR, rdC_some hc]
      refine zrun ?_ ?_
      refine x_load rfl rfl (hpmt (D.d0)) rfl trivial ?_
      refine zrun ?_ ?_
      refine cw_cond rfl (fun hk1' => ?_) (fun hk1' => ?_) <;> (try simp at hk1')
      · have hk1'' : ¬ c.kind = 2 := by omega
        refine zrunc ?_ ?_
        refine cw_cut (fun e : Bool => [(0, vc), (1, .int .i64 i), (6, ptr H.size 0), (7, ptr H1.size 0), (8, .bool e)]) (fun e H' => H3 = H' ∧ (e = true ↔ Leaf c 1)) ?_ ?_
        · refine zrun ?_ ?_
          refine x_load rfl rfl (hpmt (D.d1)) rfl trivial ?_
          refine zrun ?_ ?_
          refine x_split 30 rfl (fun g1 => ?_) (fun g1 => ?_) <;> (try simp at g1)
          · refine zrun ?_ ?_
            refine x_load rfl rfl (hpmt (D.d4)) rfl trivial ?_
            refine zrun ?_ ?_
            rw [byte_zero]
            refine x_split 35 rfl (fun g2 => ?_) (fun g2 => ?_) <;> (try simp at g2)
            · refine zrun ?_ ?_
              refine x_load rfl rfl (hpmt (D.d5)) rfl trivial ?_
              refine zrun ?_ ?_
              refine x_split 40 rfl (fun g3 => ?_) (fun g3 => ?_) <;> (try simp at g3)
              · refine zrun ?_ ?_
                refine x_load rfl rfl (hpmt (D.d3)) rfl trivial ?_
                refine zrun ?_ ?_
                refine x_split 45 rfl (fun g4 => ?_) (fun g4 => ?_) <;> (try simp at g4)
                · refine zrun ?_ ?_
                  refine x_load rfl rfl (hpmt (D.d2)) rfl trivial ?_
                  refine zrun ?_ ?_
                  refine x_split 50 rfl (fun g5 => ?_) (fun g5 => ?_) <;> (try simp at g5)
                  · refine zrun ?_ ?_
                    refine x_load rfl rfl (hpmt (D.d8)) rfl trivial ?_
                    refine zrun ?_ ?_
                    refine x_split 56 rfl (fun g6 => ?_) (fun g6 => ?_) <;> (try simp at g6)
                    · have hp0 : c.pairs = [] := by first | exact g6 | exact List.length_eq_zero_iff.1 (by omega)
                      refine zrun ?_ ?_
                      refine x_load rfl rfl (hpmt (D.d7)) rfl trivial ?_
                      refine zrun ?_ ?_
                      refine x_call rfl rfl rfl trivial (ref_May sK) ?_
                      rintro _ _ ⟨rfl, rfl⟩
                      refine ⟨trivial, ?_⟩
                      refine zrun ?_ ?_
                      exact nw_meet _ (by repeat (first | exact True.intro | refine ⟨rfl, ?_⟩)) ⟨rfl, fun e => ⟨hk1', g1, g4, g2, g3, hp0, g5, of_decide_eq_true e⟩, fun h => decide_eq_true h.key⟩
                    · refine zrun ?_ ?_
                      exact nw_meet false (by repeat (first | exact True.intro | refine ⟨rfl, ?_⟩)) ⟨rfl, (fun e => by cases e), (fun h => absurd h.pairs g6)⟩
                  · refine zrun ?_ ?_
                    exact nw_meet false (by repeat (first | exact True.intro | refine ⟨rfl, ?_⟩)) ⟨rfl, (fun e => by cases e), (fun h => absurd h.count g5)⟩
                · refine zrun ?_ ?_
                  exact nw_meet false (by repeat (first | exact True.intro | refine ⟨rfl, ?_⟩)) ⟨rfl, (fun e => by cases e), (fun h => absurd h.kids g4)⟩
              · refine zrun ?_ ?_
                exact nw_meet false (by repeat (first | exact True.intro | refine ⟨rfl, ?_⟩)) ⟨rfl, (fun e => by cases e), (fun h => by rw [h.full] at g3; cases g3)⟩
            · refine zrun ?_ ?_
              exact nw_meet false (by repeat (first | exact True.intro | refine ⟨rfl, ?_⟩)) ⟨rfl, (fun e => by cases e), (fun h => absurd h.byte g2)⟩
          · refine zrun ?_ ?_
            exact nw_meet false (by repeat (first | exact True.intro | refine ⟨rfl, ?_⟩)) ⟨rfl, (fun e => by cases e), (fun h => absurd h.at_ g1)⟩
        rintro e _ ⟨rfl, he⟩
        have hRe : R = if e = true then some ⟨[(c.key, c.val)], i + 1, 1⟩ else none := by
          rw [hRc]
          cases e with
          | true => rw [if_pos (he.1 rfl)]; rfl
          | false => rw [if_neg (fun h => by have := he.2 h; cases this), if_neg (fun h => hk1'' h.kind)]; rfl
        refine zrun ?_ ?_
        refine x_load rfl rfl (hpmt (D.d7)) rfl trivial ?_
        refine zrun ?_ ?_
        refine x_load rfl rfl (hpmt (D.d6)) rfl trivial ?_
        refine zrun ?_ ?_
        refine x_build (cs := [y.2.1, .int .u64 c.val]) rfl rfl rfl (two_oneC (isSl_oneC sK)) rfl trivial ?_
        refine x_buildSliceS1 (by rfl) rfl rfl (by omega) (by rfl) rfl trivial ?_
        intro H4 hn4
        refine ⟨trivial, ?_⟩
        have hs4 := hn4.size
        have hB64 := hB63.keep (S := Non) hn4.keep (fun h => h)
        refine zrun ?_ ?_
        refine x_build (cs := [.slice (some ⟨H3.size, 0, none⟩) 1 1, .int .i64 (i + 1), .int .i64 1, .bool e]) rfl rfl rfl (ocp_cons rfl (ocp_cons rfl (ocp_cons rfl (ocp_cons rfl ocp_nil)))) rfl trivial ?_
        refine x_stores rfl rfl rfl rfl (oc_cons rfl (oc_cons rfl (oc_cons rfl (oc_cons rfl oc_nil)))) hB64 (by simp [zR]) trivial ?_
        intro H5 hB5 hk5 hs5
        refine ⟨trivial, ?_⟩
        have hk05 : Keep Non H H5 := keep_at (hn4.old hk03) hk5 (Nat.le_refl _)
        have hk35 : Keep (· = H.size) H3 H5 := (hn4.keep.mono (S := Non) (fun _ _ h => h.elim)).step hk5 (fun _ _ e => e)
        refine zrun ?_ ?_
        refine cw_retc rfl rfl rfl (hB5.cels 0 4 (by simp [putL, zR])) ⟨hk05, .slice (some ⟨H3.size, 0, none⟩) 1 1, (i : Int) + 1, 1, [(c.key, c.val)], ?_, ⟨⟨[(y.2.1, c.val)], ?_, Pk.one (p := (c.key, c.val)) (hy3.2.1.step hk35 (fun z hz e => by have e : z = H.size := e; omega) (fun _ h => h))⟩, fun _ => by show H.size ≤ H3.size; omega⟩, by simp, fun x hx => ?_⟩
        · rw [hRe]; cases e <;> rfl
        · exact (Own.new (s := 2) (n := 1) hn4 rfl (by omega)).keep hk5 (fun _ e => by have e : H3.size = H.size := e; omega)
        · rw [hRe] at hx
          cases e with
          | false => cases hx
          | true =>
            injection hx with hx
            subst hx
            exact ⟨rfl, rfl, rfl⟩
      · have hnl : ¬ Leaf c 1 := fun h => hk1' h.kind
        rw [if_neg hnl] at hRc
        have hcels7 : Cels H3 H1.size 0 (encC y) := hB73.cels 0 9 (by simp [encC])
        refine zrunc ?_ ?_
        refine cw_cut (fun e : Bool => [(0, vc), (1, .int .i64 i), (6, ptr H.size 0), (7, ptr H1.size 0), (89, .bool e)]) (fun e H' => Keep Non H3 H' ∧ (e = true → ¬ InnerC c above) ∧ (e = false → InnerC c above)) ?_ ?_
        · refine zrun ?_ ?_
          refine x_load rfl rfl (hpmt (D.d0)) rfl trivial ?_
          refine zrun ?_ ?_
          refine x_split 74 rfl (fun g1 => ?_) (fun g1 => ?_) <;> (try simp at g1)
          · refine zrun ?_ ?_
            exact nw_meet true (by repeat (first | exact True.intro | refine ⟨rfl, ?_⟩)) ⟨Keep.refl _ _, (fun _ h => g1 h.kind), (fun e => by cases e)⟩
          · refine zrun ?_ ?_
            refine x_loads (cs := encC y) rfl rfl rfl (hpmt hcels7) rfl trivial ?_
            refine x_call rfl rfl rfl trivial (ref11_bare hy3) ?_
            rintro _ H4 ⟨hk4, rfl⟩
            refine ⟨trivial, ?_⟩
            have D4 := D.keepN hk4
            refine zrun ?_ ?_
            refine x_split 79 rfl (fun g2 => ?_) (fun g2 => ?_) <;> (try simp at g2)
            · refine zrun ?_ ?_
              exact nw_meet true (by repeat (first | exact True.intro | refine ⟨rfl, ?_⟩)) ⟨hk4, (fun _ h => by have h1 := h.byte; have h2 := h.full; have h3 := h.val; have h4 := h.key; have h5 := h.pairs; simp_all), (fun e => by cases e)⟩
            · refine zrun ?_ ?_
              refine x_load rfl rfl (hpmt (D4.d3)) rfl trivial ?_
              refine zrun ?_ ?_
              refine x_split 84 rfl (fun g3 => ?_) (fun g3 => ?_) <;> (try simp at g3)
              · refine zrun ?_ ?_
                exact nw_meet true (by repeat (first | exact True.intro | refine ⟨rfl, ?_⟩)) ⟨hk4, (fun _ h => g3 h.kids), (fun e => by cases e)⟩
              · refine zrun ?_ ?_
                refine x_load rfl rfl (hpmt (D4.d1)) rfl trivial ?_
                refine zrun ?_ ?_
                exact nw_meet _ (by repeat (first | exact True.intro | refine ⟨rfl, ?_⟩)) ⟨hk4, (fun e h => by have := of_decide_eq_true e; have := h.at_; omega), (fun e => ⟨g1, by have := of_decide_eq_false e; omega, g3, g2.1, g2.2.1, g2.2.2.1, g2.2.2.2.1, g2.2.2.2.2⟩)⟩
        rintro e H4 ⟨hk34, ht, hfl⟩
        have hk04 := hk03.non_trans hk34
        have hB64 := hB63.keep hk34 (fun h => h)
        cases e with
        | true =>
          rw [if_neg (ht rfl)] at hRc
          refine zrun ?_ ?_
          refine x_build (cs := [.slice none 0 0, .int .i64 0, .int .i64 0, .bool false]) rfl rfl rfl ocp_nil rfl trivial ?_
          refine x_stores rfl rfl rfl rfl (by simp [oneC, Value.oneCell']) (hB64) (by simp [zR]) trivial ?_
          intro Hz hBz hkz hsz
          refine ⟨trivial, ?_⟩
          refine zrun ?_ ?_
          exact cw_retc rfl rfl rfl (hBz.cels 0 4 (by simp [putL, zR])) ⟨keep_at (hk04) hkz (Nat.le_refl _), .slice none 0 0, 0, 0, [], by rw [hRc]; rfl, RdV.nil _ _ _, Nat.zero_le _, fun x hx => by rw [hRc] at hx; cases hx⟩
        | false =>
          have hI := hfl rfl
          rw [if_pos hI] at hRc
          unfold nodeC at hRc
          dsimp only at hRc
          have D4 := D.keepN hk34
          have hilt : i < l.length := (List.getElem?_eq_some_iff.1 hc).1
          have hs04 := hk04.size
          refine zrun ?_ ?_
          refine x_load rfl rfl (hpmt (D4.d1)) rfl trivial ?_
          refine zrun ?_ ?_
          refine x_call rfl rfl rfl trivial (ih (i := i + 1) (above := c.at_) (by omega) (by omega) (CR.keepN hC hk04) (by omega)) ?_
          rintro _ H5 ⟨hk5, va, na, da, Pa, rfl, hVa, hPal, hAA⟩
          refine ⟨trivial, ?_⟩
          have hva := isSl_oneC hVa.ps.sl
          have hrag := @rdC_good f l (i + 1) c.at_
          generalize rdC f l (i + 1) c.at_ = ra at hRc hAA hrag ⊢
          refine zrun ?_ ?_
          refine x_alloc rfl rfl trivial ?_
          intro H6 hn6
          refine ⟨trivial, ?_⟩
          refine x_stores rfl rfl rfl rfl (oc_cons hva (oc_cons rfl (oc_cons rfl (oc_cons rfl oc_nil)))) hn6.blk (by simp) trivial ?_
          intro H7 hB9 hk7 hs7
          refine ⟨trivial, ?_⟩
          have hs6 := hn6.size
          have hs5 := hk5.size
          have hk57 : Keep Non H5 H7 := keep_at hn6.keep hk7 (Nat.le_refl _)
          have hk47 := hk5.non_trans hk57
          have hk07 := hk04.non_trans hk47
          have hB67 := hB64.keep hk47 (fun h => h)
          have D7 := D4.keepN hk47
          have a0 : cel H7 H5.size 0 = some va := by rw [hB9.cel]; rfl
          have a1 : cel H7 H5.size 1 = some (.int .i64 na) := by rw [hB9.cel]; rfl
          have a2 : cel H7 H5.size 2 = some (.int .i64 da) := by rw [hB9.cel]; rfl
          have a3 : cel H7 H5.size 3 = some (.bool ra.isSome) := by rw [hB9.cel]; rfl
          refine zrun ?_ ?_
          refine x_load rfl rfl (hpmt (a3)) rfl trivial ?_
          refine zrun ?_ ?_
          cases ra with
          | none =>
            have hz : R = none := hRc
            refine zrun ?_ ?_
            refine x_build (cs := [.slice none 0 0, .int .i64 0, .int .i64 0, .bool false]) rfl rfl rfl ocp_nil rfl trivial ?_
            refine x_stores rfl rfl rfl rfl (by simp [oneC, Value.oneCell']) (hB67) (by simp [zR]) trivial ?_
            intro Hz hBz hkz hsz
            refine ⟨trivial, ?_⟩
            refine zrun ?_ ?_
            exact cw_retc rfl rfl rfl (hBz.cels 0 4 (by simp [putL, zR])) ⟨keep_at (hk07) hkz (Nat.le_refl _), .slice none 0 0, 0, 0, [], by rw [hz]; rfl, RdV.nil _ _ _, Nat.zero_le _, fun x hx => by rw [hz] at hx; cases hx⟩
          | some a =>
            obtain ⟨e1, e2, e3⟩ := hAA a rfl
            obtain ⟨ga, gap, gan, gak⟩ := hrag rfl
            subst e1 e2 e3
            have hVa7 := hVa.keepN hk57
            have hRc : R = match rdC f l a.next c.at_ with
              | none => none
              | some b => (open Classical in if c.count = ((a.P.length + b.P.length : Nat) : Int) ∧ critOk c.at_ a.P b.P then some ⟨a.P ++ b.P, b.next, 1 + max a.deep b.deep⟩ else none) := hRc
            have hg1 := ga.lt
            have hg2 := ga.le
            have hg3 := ga.deep
            have hs07 := hk07.size
            refine zrun ?_ ?_
            refine x_load rfl rfl (hpmt (a1)) rfl trivial ?_
            refine zrun ?_ ?_
            refine x_load rfl rfl (hpmt (D7.d1)) rfl trivial ?_
            refine zrun ?_ ?_
            refine x_call rfl rfl rfl trivial (ih (i := a.next) (above := c.at_) (by omega) (by omega) (CR.keepN hC hk07) (by omega)) ?_
            rintro _ H8 ⟨hk8, vb, nb, db, Pb, rfl, hVb, hPbl, hBB⟩
            refine ⟨trivial, ?_⟩
            have hvb := isSl_oneC hVb.ps.sl
            have hrbg := @rdC_good f l a.next c.at_
            generalize rdC f l a.next c.at_ = rb at hRc hBB hrbg ⊢
            refine zrun ?_ ?_
            refine x_alloc rfl rfl trivial ?_
            intro H9 hn9
            refine ⟨trivial, ?_⟩
            refine x_stores rfl rfl rfl rfl (oc_cons hvb (oc_cons rfl (oc_cons rfl (oc_cons rfl oc_nil)))) hn9.blk (by simp) trivial ?_
            intro H10 hB10 hk10 hs10
            refine ⟨trivial, ?_⟩
            have hs8 := hk8.size
            have hs9 := hn9.size
            have hk810 : Keep Non H8 H10 := keep_at hn9.keep hk10 (Nat.le_refl _)
            have hk710 := hk8.non_trans hk810
            have hk010 := hk07.non_trans hk710
            have hB610 := hB67.keep hk710 (fun h => h)
            have D10 := D7.keepN hk710
            have a0' := hk710.cel a0 (fun h => h)
            have a2' := hk710.cel a2 (fun h => h)
            have b0 : cel H10 H8.size 0 = some vb := by rw [hB10.cel]; rfl
            have b1 : cel H10 H8.size 1 = some (.int .i64 nb) := by rw [hB10.cel]; rfl
            have b2 : cel H10 H8.size 2 = some (.int .i64 db) := by rw [hB10.cel]; rfl
            have b3 : cel H10 H8.size 3 = some (.bool rb.isSome) := by rw [hB10.cel]; rfl
            have hVa10 := hVa7.keepN hk710
            refine zrun ?_ ?_
            refine x_load rfl rfl (hpmt (b3)) rfl trivial ?_
            refine zrun ?_ ?_
            cases rb with
            | none =>
              have hz : R = none := hRc
              refine zrun ?_ ?_
              refine x_build (cs := [.slice none 0 0, .int .i64 0, .int .i64 0, .bool false]) rfl rfl rfl ocp_nil rfl trivial ?_
              refine x_stores rfl rfl rfl rfl (by simp [oneC, Value.oneCell']) (hB610) (by simp [zR]) trivial ?_
              intro Hz hBz hkz hsz
              refine ⟨trivial, ?_⟩
              refine zrun ?_ ?_
              exact cw_retc rfl rfl rfl (hBz.cels 0 4 (by simp [putL, zR])) ⟨keep_at (hk010) hkz (Nat.le_refl _), .slice none 0 0, 0, 0, [], by rw [hz]; rfl, RdV.nil _ _ _, Nat.zero_le _, fun x hx => by rw [hz] at hx; cases hx⟩
            | some b =>
              obtain ⟨e1, e2, e3⟩ := hBB b rfl
              obtain ⟨gb, gbp, gbn, gbk⟩ := hrbg rfl
              subst e1 e2 e3
              have hVb10 := hVb.keepN hk810
              have hRc : R = (open Classical in if c.count = ((a.P.length + b.P.length : Nat) : Int) ∧ critOk c.at_ a.P b.P then some ⟨a.P ++ b.P, b.next, 1 + max a.deep b.deep⟩ else none) := hRc
              have sVa := hVa10.ps.sl
              have sVb := hVb10.ps.sl
              have hh1 := gb.lt
              have hh2 := gb.le
              have hh3 := gb.deep
              refine zrun ?_ ?_
              refine x_load rfl rfl (hpmt (D10.d2)) rfl trivial ?_
              refine zrun ?_ ?_
              refine x_load rfl rfl (hpmt (a0')) rfl trivial ?_
              refine zrun ?_ ?_
              refine x_load rfl rfl (hpmt (b0)) rfl trivial ?_
              refine zrun ?_ ?_
              refine cw_cond rfl (fun hcnt => ?_) (fun hcnt => ?_) <;> (try simp at hcnt)
              · have hz : R = none := by rw [hRc, if_neg (fun h => hcnt (by rw [h.1]; omega))]
                refine zrun ?_ ?_
                refine x_build (cs := [.slice none 0 0, .int .i64 0, .int .i64 0, .bool false]) rfl rfl rfl ocp_nil rfl trivial ?_
                refine x_stores rfl rfl rfl rfl (by simp [oneC, Value.oneCell']) (hB610) (by simp [zR]) trivial ?_
                intro Hz hBz hkz hsz
                refine ⟨trivial, ?_⟩
                refine zrun ?_ ?_
                exact cw_retc rfl rfl rfl (hBz.cels 0 4 (by simp [putL, zR])) ⟨keep_at (hk010) hkz (Nat.le_refl _), .slice none 0 0, 0, 0, [], by rw [hz]; rfl, RdV.nil _ _ _, Nat.zero_le _, fun x hx => by rw [hz] at hx; cases hx⟩
              · obtain ⟨qa, hoa, hqa⟩ := id hVa10.row
                obtain ⟨qb, hob, hqb⟩ := id hVb10.row
                have hkr := Keep.refl Non H10
                refine zrunc ?_ ?_
                refine cw_held (fun _ => Keep Non H10) ⟨[2, 5], [(1, 0), (4, 0)]⟩ (.op 0 (.op 1 (.op 3 (.op 4 (.op 2 (.op 5 (.op 6 (.nil)))))))) panicOk_body mixed (by kernel_rfl) ?_
                refine zhrun ?_ ?_
                refine x_load rfl rfl (hpmk rfl (fun _ hk => hk.cel a0' (fun h => h))) rfl (okq_load rfl rfl (by assumption)) ?_
                refine zhrun ?_ ?_
                refine x_load rfl rfl (hpmk rfl (fun _ hk => hk.cel b0 (fun h => h))) rfl (okq_load rfl rfl (by assumption)) ?_
                refine zhrun ?_ ?_
                refine x_append (by rfl) (by rfl) (by rfl) rfl rfl rfl (Own.nil 2 H10) sVa (by rw [pcs_length, hqa.len]) hoa.cels (pcs_oneC hqa (fun v b h => isSl_oneC h.1.sl)) (by omega) rfl ⟨rfl, rfl⟩ ?_
                intro v11 H11 hap11
                have hk11 : Keep Non H10 H11 := hap11.old (Fresh.nil H10) (Keep.refl _ _)
                have hf11 := hap11.fresh (Fresh.nil H10) (Nat.le_refl _)
                refine ⟨okm_keep hk11 (fun _ _ h => h), ?_⟩
                have hob11 := hob.keep hk11 (fun _ h => h)
                have ho11 : Own 2 H11 v11 a.P.length (pcs qa) := by simpa using hap11.own
                refine zhrun ?_ ?_
                refine x_append (by rfl) (by rfl) (by rfl) rfl rfl rfl ho11 sVb (by rw [pcs_length, hqb.len]) hob11.cels (pcs_oneC hqb (fun v b h => isSl_oneC h.1.sl)) (by omega) rfl ⟨rfl, rfl⟩ ?_
                intro v12 H12 hap12
                have hk12 : Keep Non H10 H12 := hap12.old hf11 hk11
                have hf12 := hap12.fresh hf11 hk11.size
                refine ⟨okm_keep hap12.keep (fun z hz e => by have := hf11 (by have := e.2; omega); have := e.1; omega), ?_⟩
                have hO12 : Own 2 H12 v12 (a.P ++ b.P).length (pcs (qa ++ qb)) := by rw [List.length_append, pcs_append]; exact hap12.own
                have hV12 : RdV B0 H.size H12 v12 (a.P ++ b.P) := ⟨⟨qa ++ qb, hO12, (hqa.mono fun _ _ hb => hb.step hk12 (fun _ _ h => h) (fun _ h => h)).append (hqb.mono fun _ _ hb => hb.step hk12 (fun _ _ h => h) (fun _ h => h))⟩, fun hc => by have := hf12 hc; have := hk010.size; omega⟩
                have D12 := D10.keepN hk12
                have a0'' := hk12.cel a0' (fun h => h)
                have a2'' := hk12.cel a2' (fun h => h)
                have b1'' := hk12.cel b1 (fun h => h)
                have b2'' := hk12.cel b2 (fun h => h)
                have hB612 := hB610.keep hk12 (fun h => h)
                have hk012 := hk010.non_trans hk12
                have hPs := hV12.ps
                have sV := hPs.sl
                have hnl : (a.P ++ b.P).length = a.P.length + b.P.length := List.length_append
                have hn0 : 0 < a.P.length := List.length_pos_iff.2 gan
                have hkeys : ∀ p ∈ a.P ++ b.P, p.1.length ≤ 65535 := fun p hp => by
                  rcases List.mem_append.1 hp with hp | hp
                  · exact gak p hp
                  · exact gbk p hp
                unfold critOk at hRc
                generalize hall : a.P ++ b.P = all at *
                obtain ⟨q0, hq0⟩ := getp (l := all) (j := 0) (by omega)
                obtain ⟨k0, z1, z2, z3⟩ := hPs.at_ 0 q0 hq0
                clear hB10 hB9 hap11 hap12 hk810 hk57 hn9 hn6
                refine zhrun ?_ ?_
                refine zrun ?_ ?_
                have hkr12 := Keep.refl Non H12
                refine cw_loop (fun k : Nat => [(6, ptr H.size 0), (7, ptr H1.size 0), (9, ptr H5.size 0), (10, ptr H8.size 0), (11, v12), (12, .int .i64 k)]) (fun k H' => H12 = H' ∧ k ≤ all.length ∧ ∀ j, j < k → critAt c.at_ a.P.length all j) (fun k => all.length - k) 0 (by repeat (first | exact True.intro | refine ⟨rfl, ?_⟩)) ⟨rfl, Nat.zero_le _, fun j hj => by omega⟩ ?_
                rintro k _ ⟨rfl, hkl, hcr⟩
                refine zrun ?_ ?_
                refine cw_cond rfl (fun hkl2 => ?_) (fun hkl2 => ?_) <;> (try simp at hkl2)
                · obtain ⟨p, hp⟩ := getp (l := all) (j := k) (by omega)
                  obtain ⟨kk, w1, w2, w3⟩ := hPs.at_ k p hp
                  have hq0l := hkeys q0 (List.mem_of_getElem? hq0)
                  refine zrunc ?_ ?_
                  refine cw_held (fun _ => Keep Non H12) ⟨[9], [(3, 0), (8, 0)]⟩ (.op 0 (.op 1 (.op 2 (.op 3 (.op 4 (.op 5 (.op 6 (.op 7 (.op 8 (.op 9 (.op 10 (.nil)))))))))))) panicOk_body mixed (by kernel_rfl) ?_
                  refine zhrun ?_ ?_
                  refine x_load rfl rfl (hpmk rfl (fun _ hk => hk.cel z1 (fun h => h))) rfl (okq_load rfl rfl (by assumption)) ?_
                  refine zhrun ?_ ?_
                  refine x_load rfl rfl (hpmk rfl (fun _ hk => hk.cel w1 (fun h => h))) rfl (okq_load rfl rfl (by assumption)) ?_
                  refine zhrun ?_ ?_
                  refine x_call rfl rfl rfl ⟨rfl, rfl⟩ (ref_Differ z3 w3 (by omega)) ?_
                  rintro _ _ ⟨rfl, rfl⟩
                  refine ⟨okm_keep hkr12 (fun _ _ h => h), ?_⟩
                  refine zhrun ?_ ?_
                  refine zrun ?_ ?_
                  refine x_load rfl rfl (hpmt (a0'')) rfl trivial ?_
                  refine zrun ?_ ?_
                  refine cw_cut (fun x : Int => [(6, ptr H.size 0), (7, ptr H1.size 0), (9, ptr H5.size 0), (10, ptr H8.size 0), (11, v12), (12, .int .i64 k), (13, .int .i64 (differ q0.1 p.1)), (14, .int .i64 x)]) (fun x H' => H12 = H' ∧ x = if k < a.P.length then 0 else 1) ?_ ?_
                  · refine cw_cond rfl (fun hkn => ?_) (fun hkn => ?_) <;> (try simp at hkn)
                    · refine zrun ?_ ?_
                      exact nw_meet 1 (by repeat (first | exact True.intro | refine ⟨rfl, ?_⟩)) ⟨rfl, by rw [if_neg (by omega)]⟩
                    · refine zrun ?_ ?_
                      exact nw_meet 0 (by repeat (first | exact True.intro | refine ⟨rfl, ?_⟩)) ⟨rfl, by rw [if_pos (by omega)]⟩
                  rintro x _ ⟨rfl, hx⟩
                  have hcrit : critAt c.at_ a.P.length all k ↔ ¬ (0 ≤ differ q0.1 p.1 ∧ differ q0.1 p.1 < c.at_) ∧ bitK p.1 c.at_ = x := by
                    rw [hx]
                    constructor
                    · intro h; exact h p q0 hq0 hp
                    · intro h p' q' hq' hp'
                      rw [hq0] at hq'; rw [hp] at hp'
                      cases hq'; cases hp'
                      exact h
                  refine zrunc ?_ ?_
                  refine cw_cut (fun e : Bool => [(6, ptr H.size 0), (7, ptr H1.size 0), (9, ptr H5.size 0), (10, ptr H8.size 0), (11, v12), (12, .int .i64 k), (169, .bool e)]) (fun e H' => H12 = H' ∧ (e = true → ¬ critAt c.at_ a.P.length all k) ∧ (e = false → critAt c.at_ a.P.length all k)) ?_ ?_
                  · refine cw_held (fun _ => Keep Non H12) ⟨[16], [(5, 0), (13, 0), (15, 0)]⟩ (.op 0 (.op 1 (.op 2 (.op 3 (.op 4 (.op 5 (.op 6 (.op 7 (.op 8 (.op 9 (.op 10 (.op 11 (.op 12 (.op 13 (.op 14 (.op 15 (.op 17 (.op 16 (.op 18 (.op 19 (.nil))))))))))))))))))))) panicOk_body mixed (by kernel_rfl) ?_
                    refine zhrun ?_ ?_
                    refine x_split 152 rfl (fun h2 => ?_) (fun h2 => ?_) <;> (try simp at h2)
                    · refine zhrun ?_ ?_
                      refine x_load rfl rfl (hpmk rfl (fun _ hk => hk.cel D12.d1 (fun h => h))) rfl (okq_load rfl rfl (by assumption)) ?_
                      refine zhrun ?_ ?_
                      refine x_split 158 rfl (fun h3 => ?_) (fun h3 => ?_) <;> (try simp at h3)
                      · refine zhrun ?_ ?_
                        repeat (first | refine zu ?_ | refine x_skip (okq_load rfl rfl (by assumption)) rfl rfl rfl ?_ | refine x_skipE ⟨rfl, rfl⟩ rfl rfl ?_)
                        refine zhrun ?_ ?_
                        repeat (first | refine zu ?_ | refine x_skip (okq_load rfl rfl (by assumption)) rfl rfl rfl ?_ | refine x_skipE ⟨rfl, rfl⟩ rfl rfl ?_)
                        refine zhrun ?_ ?_
                        repeat (first | refine zu ?_ | refine x_skip (okq_load rfl rfl (by assumption)) rfl rfl rfl ?_ | refine x_skipE ⟨rfl, rfl⟩ rfl rfl ?_)
                        refine zhrun ?_ ?_
                        refine zrun ?_ ?_
                        exact nw_meet true (by repeat (first | exact True.intro | refine ⟨rfl, ?_⟩)) ⟨rfl, (fun _ h => (hcrit.1 h).1 ⟨by omega, by omega⟩), (fun e => by cases e)⟩
                      · refine zhrun ?_ ?_
                        refine x_load rfl rfl (hpmk rfl (fun _ hk => hk.cel w1 (fun h => h))) rfl (okq_load rfl rfl (by assumption)) ?_
                        refine zhrun ?_ ?_
                        refine x_load rfl rfl (hpmk rfl (fun _ hk => hk.cel D12.d1 (fun h => h))) rfl (okq_load rfl rfl (by assumption)) ?_
                        refine zhrun ?_ ?_
                        refine x_call rfl rfl rfl ⟨rfl, rfl⟩ (ref_Bit c.at_ hat w3) ?_
                        rintro _ _ ⟨rfl, rfl⟩
                        refine ⟨okm_keep hkr12 (fun _ _ h => h), ?_⟩
                        refine zhrun ?_ ?_
                        refine zrun ?_ ?_
                        exact nw_meet _ (by repeat (first | exact True.intro | refine ⟨rfl, ?_⟩)) ⟨rfl, (fun e h => by have h1 := (hcrit.1 h).2; rw [h1] at e; simp at e), (fun e => hcrit.2 ⟨fun h => by omega, by simpa using e⟩)⟩
                    · repeat (first | refine zu ?_ | refine x_skip (okq_load rfl rfl (by assumption)) rfl rfl rfl ?_ | refine x_skipE ⟨rfl, rfl⟩ rfl rfl ?_)
                      refine zhrun ?_ ?_
                      refine x_load rfl rfl (hpmk rfl (fun _ hk => hk.cel w1 (fun h => h))) rfl (okq_load rfl rfl (by assumption)) ?_
                      refine zhrun ?_ ?_
                      refine x_load rfl rfl (hpmk rfl (fun _ hk => hk.cel D12.d1 (fun h => h))) rfl (okq_load rfl rfl (by assumption)) ?_
                      refine zhrun ?_ ?_
                      refine x_call rfl rfl rfl ⟨rfl, rfl⟩ (ref_Bit c.at_ hat w3) ?_
                      rintro _ _ ⟨rfl, rfl⟩
                      refine ⟨okm_keep hkr12 (fun _ _ h => h), ?_⟩
                      refine zhrun ?_ ?_
                      refine zrun ?_ ?_
                      exact nw_meet _ (by repeat (first | exact True.intro | refine ⟨rfl, ?_⟩)) ⟨rfl, (fun e h => by have h1 := (hcrit.1 h).2; rw [h1] at e; simp at e), (fun e => hcrit.2 ⟨fun h => by omega, by simpa using e⟩)⟩
                  rintro e _ ⟨rfl, ht, hfl⟩
                  cases e with
                  | true =>
                    have hz : R = none := by rw [hRc, if_neg (fun h => ht rfl (h.2 k))]
                    refine zrun ?_ ?_
                    refine x_build (cs := [.slice none 0 0, .int .i64 0, .int .i64 0, .bool false]) rfl rfl rfl ocp_nil rfl trivial ?_
                    refine x_stores rfl rfl rfl rfl (by simp [oneC, Value.oneCell']) (hB612) (by simp [zR]) trivial ?_
                    intro Hz hBz hkz hsz
                    refine ⟨trivial, ?_⟩
                    refine zrun ?_ ?_
                    exact cw_retc rfl rfl rfl (hBz.cels 0 4 (by simp [putL, zR])) ⟨keep_at (hk012) hkz (Nat.le_refl _), .slice none 0 0, 0, 0, [], by rw [hz]; rfl, RdV.nil _ _ _, Nat.zero_le _, fun x hx => by rw [hz] at hx; cases hx⟩
                  | false =>
                    refine zrun ?_ ?_
                    exact nw_round (k + 1) (by repeat (first | exact True.intro | refine ⟨rfl, ?_⟩)) ⟨rfl, by omega, fun j hj => by
                      by_cases e : j = k
                      · rw [e]; exact hfl rfl
                      · exact hcr j (by omega)⟩ (by omega)
                · have hke : k = all.length := by omega
                  subst hke
                  have hcok : ∀ j, critAt c.at_ a.P.length all j := fun j => by
                    by_cases hj : j < all.length
                    · exact hcr j hj
                    · intro p' q' _ hp'
                      have := (List.getElem?_eq_some_iff.1 hp').1
                      omega
                  have hcn : c.count = ((a.P.length + b.P.length : Nat) : Int) := by omega
                  have hz : R = some ⟨all, b.next, 1 + max a.deep b.deep⟩ := by rw [hRc, if_pos ⟨hcn, hcok⟩]
                  refine zrun ?_ ?_
                  refine x_load rfl rfl (hpmt (b1'')) rfl trivial ?_
                  refine zrun ?_ ?_
                  refine x_load rfl rfl (hpmt (a2'')) rfl trivial ?_
                  refine zrun ?_ ?_
                  refine x_load rfl rfl (hpmt (b2'')) rfl trivial ?_
                  refine zrun ?_ ?_
                  refine x_max rfl rfl rfl rfl trivial ?_
                  have emax : max (a.deep : Int) (b.deep : Int) = ((max a.deep b.deep : Nat) : Int) := by omega
                  rw [emax]
                  refine zrun ?_ ?_
                  have hov := isSl_oneC sV
                  refine x_build (cs := [v12, .int .i64 b.next, .int .i64 (1 + ((max a.deep b.deep : Nat) : Int)), .bool true]) rfl rfl rfl (ocp_cons hov (ocp_cons rfl (ocp_cons rfl (ocp_cons rfl ocp_nil)))) rfl trivial ?_
                  refine x_stores rfl rfl rfl rfl (oc_cons hov (oc_cons rfl (oc_cons rfl (oc_cons rfl oc_nil)))) hB612 (by simp [zR]) trivial ?_
                  intro H13 hB13 hk13' hs13
                  refine ⟨trivial, ?_⟩
                  refine zrun ?_ ?_
                  refine cw_retc rfl rfl rfl (hB13.cels 0 4 (by simp [putL, zR])) ⟨keep_at hk012 hk13' (Nat.le_refl _), v12, (b.next : Int), 1 + ((max a.deep b.deep : Nat) : Int), all, ?_, ?_, by omega, fun x hx => ?_⟩
                  · rw [hz]; rfl
                  rotate_left
                  · rw [hz] at hx
                    injection hx with hx
                    subst hx
                    exact ⟨rfl, by show 1 + ((max a.deep b.deep : Nat) : Int) = ((1 + max a.deep b.deep : Nat) : Int); omega, rfl⟩
                  · exact hV12.keep hk13' (fun hc e => by have := hf12 hc; have e : sb v12 = H.size := e; have := hk010.size; omega) (fun z hz e => by have e : z = H.size := e; omega)
end Go.Proofs.YtkdmcbacofafpaaDoor.X
