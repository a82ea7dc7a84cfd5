/- Chapter 11's document: the cells of a burst trie of pairs; of a tree of any kind. -/
import Derived.Test.YtkdmcbacofafpaaDoorO11d
namespace Go.Proofs.YtkdmcbacofafpaaDoor.X
open Go Go.Proofs
set_option linter.unusedVariables false
set_option linter.unusedSimpArgs false
set_option maxRecDepth 10000
set_option maxHeartbeats 4000000

theorem ref11_BurstOf {B0 : Nat} : ∀ (f : Nat) {w : Bytes} {l : List Pr} {vp : Value} {H : Heap}, Few l → Way w l → (∀ p ∈ l, p.1.length < w.length + f) → PIn B0 H vp l → B0 ≤ H.size →
    Ret Tryd.prog 26 [vp, .int .i64 w.length] H (OfR B0 (burstOf f l w.length) H) := by
  intro f
  induction f with
  | zero =>
    intro w l vp H hF hW hf hP hB
    have hl0 : l = [] := by
      cases l with
      | nil => rfl
      | cons p r =>
        have h1 := beg_le (hW.beg p (by simp))
        have h2 := hf p (by simp)
        omega
    subst hl0
    have sP : IsSl vp 0 := hP.row.sl
    refine ret_of Tryd.func26 rfl rfl rfl rfl ?_
    intro w0
    refine zrun ?_ ?_
    exact cw_ret1 rfl rfl ⟨Keep.refl _ _, CO.nil _ _ _⟩
  | succ f ih =>
    intro w l vp H hF hW hf hP hB
    have sP := hP.row.sl
    have cP := sP.cap
    have h40 := hF.len
    refine ret_of Tryd.func26 rfl rfl rfl rfl ?_
    intro w0
    refine zrun ?_ ?_
    refine cw_cond rfl (fun h0 => ?_) (fun h0 => ?_) <;> (try simp at h0)
    · have hl0 : l = [] := by first | exact h0 | exact List.length_eq_zero_iff.1 (by omega)
      subst hl0
      refine zrun ?_ ?_
      exact cw_ret1 rfl rfl ⟨Keep.refl _ _, CO.nil _ _ _⟩
    · have hne : l ≠ [] := fun e => by rw [e] at h0; simp at h0
      have hpos := List.length_pos_iff.2 hne
      obtain ⟨p0, hp0⟩ : ∃ p, l[0]? = some p := ⟨_, List.getElem?_eq_getElem hpos⟩
      obtain ⟨k0, z0, z1, z2⟩ := hP.at_ hp0
      have hkr := Keep.refl Non H
      have sK0 := z2.1.sl
      have cK0 := sK0.cap
      have hk0 := hF.key p0 (List.mem_of_getElem? hp0)
      obtain ⟨n, hn⟩ : ∃ n, n = w.length := ⟨_, rfl⟩
      have hn20 : n ≤ p0.1.length := by have := beg_le (hW.beg p0 (List.mem_of_getElem? hp0)); omega
      have hft : p0.1.take n = w := by have := first_take hW hne; rw [firstK_get hp0, ← hn] at this; exact this
      rw [← hn]
      refine zrun ?_ ?_
      refine cw_cond rfl (fun h8 => ?_) (fun h8 => ?_) <;> (try simp at h8)
      · have h8' : l.length ≤ 8 := by omega
        have hcr : burstOf (f + 1) l n = [{ kind := 11, count := (l.length : Int), kids := (l.length : Int), key := w, pairs := l }] := by
          unfold burstOf
          rw [if_neg hne, if_pos h8']
          unfold shelfB
          rw [firstK_get hp0, hft]
        rw [hcr]
        refine zrun ?_ ?_
        refine x_load rfl rfl (hpmt (z0)) rfl trivial ?_
        refine zrun ?_ ?_
        refine x_slice_h rfl rfl rfl sK0 (by omega) (by omega) rfl trivial ?_
        intro uk huk hcuk
        have Kk : KSt (fun z => z < B0) H uk w := by rw [← hft]; exact z2.cut huk hcuk hn20
        have suk := Kk.1.sl
        refine zrun ?_ ?_
        refine x_build (cs := encC (({ kind := 11, count := (l.length : Int), kids := (l.length : Int), key := w, pairs := l } : Cel), uk, vp)) rfl rfl rfl (ocp_cons rfl (ocp_cons (isSl_oneC suk) (ocp_cons rfl (ocp_cons rfl (ocp_cons (isSl_oneC sP) ocp_nil))))) rfl trivial ?_
        refine zrun ?_ ?_
        refine x_buildSliceS1 (by rfl) rfl rfl (by omega) (by rfl) rfl trivial ?_
        intro H1 hn1
        refine ⟨trivial, ?_⟩
        refine zrun ?_ ?_
        exact cw_ret1 rfl rfl ⟨hn1.keep, CO.one hn1 ⟨rfl, Kk, hP.row, hP.off⟩⟩
      · have h8' : ¬ l.length ≤ 8 := by omega
        obtain ⟨o1, o2, o3⟩ := own_off hW
        have hrs := burstOf_size (f + 1) hW
        have hwt := (wt_le (n := w.length) hF.key).2
        rw [burstOf_node hne h8', List.length_cons] at hrs
        rw [← hn] at o2 o3 hrs hwt
        obtain ⟨X, hX⟩ : ∃ X, X = offOwn n l := ⟨_, rfl⟩
        obtain ⟨own, how⟩ : ∃ own, own = ownV n l := ⟨_, rfl⟩
        have hrr : runsB l n = runs n X := by rw [hX]; rfl
        have hro : RunsOk w X (runs n X) (-1) := by
          rw [hX, hn]
          exact runs_ok _ (Nat.le_refl _) (hW.sub (by rw [← hn]; exact o3)) (by rw [← hn]; exact o2) (fun p _ => by omega)
        have hnode : nodeBu l n = { kind := 10, count := (l.length : Int), kids := ((runs n X).length : Int), full := own.isSome, val := own.getD 0, key := w } := by
          unfold nodeBu
          rw [hrr, how, firstK_get hp0, hft]
        rw [burstOf_node hne h8', hnode, hrr]
        rw [hrr] at hrs
        rw [← hX] at o2 o3
        have hX40 := o3.length_le
        have hrl : (runs n X).length ≤ 40 := by
          have h1 := flat_le (gs := runs n X) (fun g hg => by obtain ⟨b, _, h, _⟩ := hro.one g hg; exact h)
          rw [hro.flat] at h1
          omega
        refine zrun ?_ ?_
        refine x_load rfl rfl (hpmt (z0)) rfl trivial ?_
        refine zrun ?_ ?_
        refine x_slice_h rfl rfl rfl sK0 (by omega) (by omega) rfl trivial ?_
        intro uk huk hcuk
        have Kk : KSt (fun z => z < B0) H uk w := by rw [← hft]; exact z2.cut huk hcuk hn20
        have suk := Kk.1.sl
        refine zrun ?_ ?_
        refine x_build (cs := encC (({ kind := 10, count := (l.length : Int), key := w } : Cel), uk, .slice none 0 0)) rfl rfl rfl (ocp_cons rfl (ocp_cons (isSl_oneC suk) (ocp_cons rfl ocp_nil))) rfl trivial ?_
        refine x_alloc rfl rfl trivial ?_
        intro H1 hn1
        refine ⟨trivial, ?_⟩
        have hs1 := hn1.size
        refine x_stores rfl rfl rfl rfl (CelR.oneC (W := fun z => z < B0) (H := H) (c := { kind := 10, count := (l.length : Int), key := w }) ⟨rfl, Kk, PsK.nil _ _, fun h => absurd rfl h⟩) hn1.blk (by simp [encC]) trivial ?_
        intro H2 hB2 hk2 hs2
        refine ⟨trivial, ?_⟩
        have hk02 : Keep Non H H2 := keep_at hn1.keep hk2 (Nat.le_refl _)
        have hB2 : Blk H2 H.size (encC (({ kind := 10, count := (l.length : Int), key := w } : Cel), uk, .slice none 0 0)) := hB2
        refine zrunc ?_ ?_
        refine cw_cut (fun e : Bool => [(0, vp), (1, .int .i64 n), (5, ptr H.size 0), (43, .bool e)]) (fun e H' => H2 = H' ∧ e = own.isSome) ?_ ?_
        · refine zrun ?_ ?_
          refine x_load rfl rfl (hpmt (hk02.cel z0 (fun h => h))) rfl trivial ?_
          refine zrun ?_ ?_
          refine nw_meet _ (by repeat (first | exact True.intro | refine ⟨rfl, ?_⟩)) ⟨rfl, ?_⟩
          rw [how, ownV_is hp0]
          by_cases hpn' : p0.1.length = n
          · rw [decide_eq_true hpn', hpn']; simp
          · rw [decide_eq_false hpn']; exact beq_eq_false_iff_ne.2 (fun e => hpn' (by omega))
        rintro e _ ⟨rfl, rfl⟩
        refine zrunc ?_ ?_
        refine cw_cut (fun u : Value => [(0, u), (1, .int .i64 n), (5, ptr H.size 0)]) (fun u H' => Keep (· = H.size) H2 H' ∧ Blk H' H.size (encC (({ kind := 10, count := (l.length : Int), full := own.isSome, val := own.getD 0, key := w } : Cel), uk, .slice none 0 0)) ∧ PIn B0 H' u X) ?_ ?_
        · cases hov : own with
          | none =>
            have e2 : X = l := by rw [hX]; unfold offOwn; rw [← how, hov]; rfl
            refine zrun ?_ ?_
            exact nw_meet vp (by repeat (first | exact True.intro | refine ⟨rfl, ?_⟩)) ⟨Keep.refl _ _, hB2, by rw [e2]; exact hP.keepN hk02⟩
          | some v =>
            have e2 : X = l.drop 1 := by rw [hX]; unfold offOwn; rw [← how, hov]; rfl
            have ep : p0.2 = v := by
              obtain ⟨q, hq, hqv⟩ := ownV_val (how.symm.trans hov)
              rw [hp0] at hq
              injection hq with hq
              rw [hq]; exact hqv
            rw [ep] at z1
            have hvb : sb vp < B0 := hP.off hne
            have z1' := hk02.cel z1 (fun h => h)
            have hkr2 := Keep.refl (fun z => z = H.size) H2
            refine zrunc ?_ ?_
            refine cw_held (fun _ => Keep (fun z => z = H.size) H2) ⟨[5, 7], [(3, 0)]⟩ (.op 0 (.op 1 (.op 2 (.op 3 (.op 4 (.op 5 (.op 6 (.op 7 (.nil))))))))) panicOk_body mixed (by kernel_rfl) ?_
            refine zhrun ?_ ?_
            refine x_load rfl rfl (hpmk rfl (fun _ hk => hk.cel z1' (fun (e : _ = _) => by omega))) rfl (okq_load rfl rfl (by assumption)) ?_
            refine zhrun ?_ ?_
            refine x_store rfl rfl rfl rfl hB2 (by simp [encC]) ⟨rfl, rfl⟩ ?_
            intro H3 hB3 hk3 hs3
            refine ⟨okm_keep hk3 (fun _ _ e => e), ?_⟩
            refine zhrun ?_ ?_
            refine x_store rfl rfl rfl rfl hB3 (by simp [encC]) ⟨rfl, rfl⟩ ?_
            intro H4 hB4 hk4 hs4
            refine ⟨okm_keep hk4 (fun _ _ e => e), ?_⟩
            have hk24 := hk3.step hk4 (fun _ _ e => e)
            refine zhrun ?_ ?_
            refine zrun ?_ ?_
            refine x_slice_l rfl rfl rfl sP (by omega) (by omega) rfl trivial ?_
            intro u10 hu10 hcu10
            have P10 := ((hP.keepN hk02).keep hk24 (fun z hz (e : z = _) => by omega)).cut (a := 1) (b := l.length) hu10 hcu10 (by omega) (Nat.le_refl _)
            rw [List.take_length, ← e2] at P10
            refine zrun ?_ ?_
            exact nw_meet u10 (by repeat (first | exact True.intro | refine ⟨rfl, ?_⟩)) ⟨hk24, hB4, P10⟩
        rintro u H3 ⟨hk23, hB3, P3⟩
        have hk03 : Keep Non H H3 := hk02.old hk23 (fun z hz (e : z = _) => by omega)
        have hs3 := hk03.size
        have hHb : H.size < H3.size := hB3.lt
        have sU := P3.row.sl
        have cU := sU.cap
        refine zrun ?_ ?_
        refine cw_loop (fun s : Nat × Value × List (List Pr) => [(0, u), (1, .int .i64 n), (5, ptr H.size 0), (6, s.2.1), (7, .int .i64 s.1)]) (fun s H' => s.1 ≤ X.length ∧ Keep (· = H.size) H3 H' ∧ Blk H' H.size (encC (({ kind := 10, count := (l.length : Int), kids := (s.2.2.length : Int), full := own.isSome, val := own.getD 0, key := w } : Cel), uk, .slice none 0 0)) ∧ CO B0 H3.size H' s.2.1 (s.2.2.flatMap (fun g => burstOf f g (n + 1))) ∧ runs n X = s.2.2 ++ runs n (X.drop s.1)) (fun s => X.length - s.1) (0, .slice none 0 0, []) (by repeat (first | exact True.intro | refine ⟨rfl, ?_⟩)) ⟨Nat.zero_le _, Keep.refl _ _, hB3, CO.nil _ _ _, by simp⟩ ?_
        rintro ⟨j, v, done⟩ H4 ⟨hj, hk34, hB4, hC4, hrn⟩
        dsimp only at hj hB4 hC4 hrn ⊢
        have hs4 := hk34.size
        have hoff : ∀ z, z < B0 → ¬ (z = H.size) := fun z hz e => by omega
        have P4 := P3.keep hk34 hoff
        have hTl := congrArg (fun g => (List.flatMap (fun g => burstOf f g (n + 1)) g).length) hrn
        simp only [List.flatMap_append, List.length_append] at hTl
        have hDl := congrArg List.length hrn
        rw [List.length_append] at hDl
        refine zrun ?_ ?_
        refine cw_cond rfl (fun hjl => ?_) (fun hjl => ?_) <;> (try simp at hjl)
        · have hjX : j < X.length := by omega
          obtain ⟨p, hp⟩ : ∃ p, X[j]? = some p := ⟨_, List.getElem?_eq_getElem hjX⟩
          obtain ⟨m, m0, mle, mrun, meq, mfin⟩ := runs_at (n := n) hp
          obtain ⟨kj, x0, _, x2⟩ := P4.at_ hp
          have sKj := x2.1.sl
          have hpl := o2 p (List.mem_of_getElem? hp)
          have hpg := byK_get hpl
          refine zrun ?_ ?_
          refine cw_loop (fun k : Nat => [(0, u), (1, .int .i64 n), (5, ptr H.size 0), (6, v), (7, .int .i64 j), (8, .int .i64 k)]) (fun k H' => H4 = H' ∧ j ≤ k ∧ k ≤ j + m) (fun k => j + m - k) j (by repeat (first | exact True.intro | refine ⟨rfl, ?_⟩)) ⟨rfl, Nat.le_refl _, by omega⟩ ?_
          rintro k _ ⟨rfl, hk1, hk2⟩
          refine zrunc ?_ ?_
          refine cw_cut (fun e : Bool => [(0, u), (1, .int .i64 n), (5, ptr H.size 0), (6, v), (7, .int .i64 j), (8, .int .i64 k), (79, .bool e)]) (fun e H' => H4 = H' ∧ e = decide (k < j + m)) ?_ ?_
          · refine cw_quiet mixed (by kernel_rfl) ?_
            refine zrun ?_ ?_
            refine x_split 61 rfl (fun hkl => ?_) (fun hkl => ?_) <;> (try simp at hkl)
            · obtain ⟨r, hr⟩ : ∃ r, X[k]? = some r := ⟨_, List.getElem?_eq_getElem (by omega)⟩
              obtain ⟨kk, w0', _, w2⟩ := P4.at_ hr
              have sKk := w2.1.sl
              have hrl' := o2 r (List.mem_of_getElem? hr)
              have hrg := byK_get hrl'
              refine zrun ?_ ?_
              refine x_load rfl rfl (hpmt (w0')) rfl trivial ?_
              refine zrun ?_ ?_
              refine x_load rfl rfl (hpmt (w2.1.get n _ hrg)) rfl trivial ?_
              refine zrun ?_ ?_
              refine x_load rfl rfl (hpmt (x0)) rfl trivial ?_
              refine zrun ?_ ?_
              refine x_load rfl rfl (hpmt (x2.1.get n _ hpg)) rfl trivial ?_
              refine zrun ?_ ?_
              refine nw_meet _ (by repeat (first | exact True.intro | refine ⟨rfl, ?_⟩)) ⟨rfl, ?_⟩
              rw [u8_eq]
              by_cases hkm : k < j + m
              · rw [decide_eq_true hkm, decide_eq_true (meq k r hk1 hkm hr)]
              · have hkm' : k = j + m := by omega
                rw [decide_eq_false hkm]
                exact decide_eq_false (mfin r (by rw [← hkm']; exact hr))
            · refine zrun ?_ ?_
              exact nw_meet false (by repeat (first | exact True.intro | refine ⟨rfl, ?_⟩)) ⟨rfl, (decide_eq_false (by omega)).symm⟩
          rintro e _ ⟨rfl, rfl⟩
          by_cases hkm : k < j + m
          · rw [decide_eq_true hkm]
            refine zrun ?_ ?_
            exact nw_round (k + 1) (by repeat (first | exact True.intro | refine ⟨rfl, ?_⟩)) ⟨rfl, by omega, by omega⟩ (by omega)
          · have hkm' : k = j + m := by omega
            rw [decide_eq_false hkm]
            subst hkm'
            clear hkm hk1 hk2
            have hrn' : runs n X = (done ++ [(X.drop j).take m]) ++ runs n (X.drop (j + m)) := by rw [hrn, mrun, List.append_assoc]; rfl
            have hg : (X.drop j).take m ∈ runs n X := by rw [hrn']; simp
            obtain ⟨b, _, hgne, hgW, _⟩ := hro.one _ hg
            have hsub : ∀ p ∈ (X.drop j).take m, p ∈ l := fun p hp => o3.subset ((List.take_sublist _ _).trans (List.drop_sublist _ _) |>.subset hp)
            have hl1 : (w ++ [b]).length = n + 1 := by rw [hn]; simp
            have hgF : Few ((X.drop j).take m) := (hF.sub o3).sub ((List.take_sublist _ _).trans (List.drop_sublist _ _))
            have hTl' := congrArg (fun g => (List.flatMap (fun g => burstOf f g (n + 1)) g).length) hrn'
            simp only [List.flatMap_append, List.length_append, List.flatMap_cons, List.flatMap_nil, List.append_nil] at hTl'
            have hDl' := congrArg List.length hrn'
            rw [List.length_append, List.length_append, List.length_singleton] at hDl'
            have igg := fun (u : Value) (H : Heap) (h1 : PIn B0 H u ((X.drop j).take m)) (h2 : B0 ≤ H.size) => ih (w := w ++ [b]) (l := (X.drop j).take m) (vp := u) hgF hgW (fun p hp => by have := hf p (hsub p hp); rw [hl1]; omega) h1 h2
            rw [hl1] at igg
            have k3 : cel H4 H.size 3 = some (.int .i64 done.length) := by rw [hB4.cel]; rfl
            refine zrun ?_ ?_
            refine x_slice_lh rfl rfl rfl rfl sU (by omega) (by omega) (by omega) rfl trivial ?_
            intro ug hug hcug
            have Pg := P4.cut (a := j) (b := j + m) hug hcug (by omega) (by omega)
            have eM : (X.take (j + m)).drop j = (X.drop j).take m := by rw [List.drop_take, Nat.add_sub_cancel_left]
            rw [eM] at Pg
            refine zrun ?_ ?_
            refine x_call rfl rfl rfl trivial (igg ug H4 Pg (by omega)) ?_
            rintro vg H5 ⟨hk5, hC5⟩
            refine ⟨trivial, ?_⟩
            have hs5 := hk5.size
            have hC45 := hC4.keepN hk5
            obtain ⟨q1, w1, a1⟩ := hC45.row
            obtain ⟨q2, w2, a2⟩ := hC5.row
            refine zrun ?_ ?_
            refine x_append (by rfl) (by rfl) (by rfl) rfl rfl rfl w1 w2.sl (by rw [rws_length encC_len, a2.len]) w2.cels (al_oneC a2) (by omega) rfl trivial ?_
            intro v6 H6 hap
            refine ⟨trivial, ?_⟩
            have hC6 : CO B0 H3.size H6 v6 _ := CO.app a1 a2 hC45.fresh (by omega) (by omega) hap
            have hoffv : ∀ z, z < H3.size → ¬ (z = sb v ∧ (done.flatMap (fun g => burstOf f g (n + 1))).length + (burstOf f ((X.drop j).take m) (n + 1)).length ≤ sc v ∧ 0 < (burstOf f ((X.drop j).take m) (n + 1)).length) := fun z hz e => by have := hC4.fresh (by have := e.2; omega); have := e.1; omega
            have hB6 := (hB4.keep hk5 (fun h => h)).keep hap.keep (hoffv _ hHb)
            have hs6 := hap.keep.size
            have k3' : cel H6 H.size 3 = some (.int .i64 done.length) := by rw [hB6.cel]; rfl
            refine zrun ?_ ?_
            refine x_load rfl rfl (hpmt (k3')) rfl trivial ?_
            refine zrun ?_ ?_
            refine x_store rfl rfl rfl rfl hB6 (by simp [encC]) trivial ?_
            intro H7 hB7 hk7 hs7
            refine ⟨trivial, ?_⟩
            have hC7 := hC6.keep hk7 hoff (fun hc (e : _ = _) => by have := hC6.fresh hc; omega)
            have hk37 : Keep (· = H.size) H3 H7 := ((hk34.step hk5 (fun _ _ h => h.elim)).step hap.keep (fun z hz e => absurd e (hoffv z hz))).step hk7 (fun _ _ e => e)
            refine zrun ?_ ?_
            refine nw_round (j + m, v6, done ++ [(X.drop j).take m]) (by repeat (first | exact True.intro | refine ⟨rfl, ?_⟩)) ⟨mle, hk37, ?_, ?_, hrn'⟩ (by simp only; omega)
            · have e : ((done ++ [(X.drop j).take m]).length : Int) = (done.length : Int) + 1 := by rw [List.length_append]; rfl
              dsimp only
              rw [e]
              exact hB7
            · dsimp only
              rw [List.flatMap_append, List.flatMap_cons, List.flatMap_nil, List.append_nil]
              exact hC7
        · have hjX : j = X.length := by omega
          have hdone : done = runs n X := by
            rw [hrn, hjX, List.drop_length, runs_nil, List.append_nil]
          subst hdone
          clear hrn hTl hDl
          have hk04 : Keep Non H H4 := hk03.old hk34 (fun z hz (e : z = _) => by omega)
          have hs04 := hk04.size
          have hy4 : CelR (fun z => z < B0) H4 (({ kind := 10, count := (l.length : Int), kids := ((runs n X).length : Int), full := own.isSome, val := own.getD 0, key := w } : Cel), uk, .slice none 0 0) _ := ⟨rfl, Kk.step hk04 (fun _ _ h => h) (fun _ h => h), PsK.nil _ _, fun h => absurd rfl h⟩
          refine zrun ?_ ?_
          refine x_loads (cs := encC (({ kind := 10, count := (l.length : Int), kids := ((runs n X).length : Int), full := own.isSome, val := own.getD 0, key := w } : Cel), uk, .slice none 0 0)) rfl rfl rfl (hpmt (hB4.cels 0 9 (by simp [encC]))) rfl trivial ?_
          refine zrun ?_ ?_
          refine x_buildSliceS1 (by rfl) rfl rfl (by omega) (by rfl) rfl trivial ?_
          intro H8 hn8
          refine ⟨trivial, ?_⟩
          have hs8 := hn8.size
          have hC8 := CO.one hn8 hy4
          obtain ⟨q1, w1, a1⟩ := hC8.row
          obtain ⟨q2, w2, a2⟩ := (hC4.keepN hn8.keep).row
          refine zrun ?_ ?_
          refine x_append (by rfl) (by rfl) (by rfl) rfl rfl rfl w1 w2.sl (by rw [rws_length encC_len, a2.len]) w2.cels (al_oneC a2) (by simp only [List.length_singleton]; omega) rfl trivial ?_
          intro v9 H9 hap
          refine ⟨trivial, ?_⟩
          have hC9 : CO B0 H4.size H9 v9 _ := CO.app a1 a2 hC8.fresh (by omega) (by omega) hap
          refine zrun ?_ ?_
          exact cw_ret1 rfl rfl ⟨hk04.non_trans (hap.old (H0 := H4) (fun hc => hC8.fresh hc) hn8.keep), hC9.mono (by omega)⟩

theorem ref11_Of {B0 : Nat} {tag : Int} {l : List Pr} {vp : Value} {H : Heap} (h1 : 1 ≤ tag) (h4 : tag ≤ 4) (hF : Few l) (hP : PIn B0 H vp l) (hB : B0 ≤ H.size) : Ret Tryd.prog 14 [.int .i64 tag, vp] H (OfR B0 (ofC tag l) H) := by
  have hcrit : ofC 1 l = critC l.length l := rfl
  have htern : ofC 2 l = ternOf l := rfl
  have hrad : ofC 3 l = radixOf l.length l := rfl
  have hbur : ofC 4 l = burstOf ways l 0 := rfl
  refine ret_of Tryd.func14 rfl rfl rfl rfl ?_
  intro w0
  refine zrun ?_ ?_
  refine cw_cond rfl (fun t1 => ?_) (fun t1 => ?_) <;> (try simp at t1)
  · subst t1
    rw [hcrit]
    refine zrun ?_ ?_
    refine x_call rfl rfl rfl trivial (ref11_CritOf l.length hF (Nat.le_refl _) hP hB) ?_
    rintro v H1 hv
    refine ⟨trivial, ?_⟩
    refine zrun ?_ ?_
    exact cw_ret1 rfl rfl hv
  · refine zrun ?_ ?_
    refine cw_cond rfl (fun t2 => ?_) (fun t2 => ?_) <;> (try simp at t2)
    · subst t2
      rw [htern]
      refine zrun ?_ ?_
      refine x_call rfl rfl rfl trivial (ref11_TernOf hF hP hB) ?_
      rintro v H1 hv
      refine ⟨trivial, ?_⟩
      refine zrun ?_ ?_
      exact cw_ret1 rfl rfl hv
    · refine zrun ?_ ?_
      refine cw_cond rfl (fun t3 => ?_) (fun t3 => ?_) <;> (try simp at t3)
      · subst t3
        rw [hrad]
        refine zrun ?_ ?_
        refine x_call rfl rfl rfl trivial (ref11_RadixOf l.length hF (Nat.le_refl _) hP hB) ?_
        rintro v H1 hv
        refine ⟨trivial, ?_⟩
        refine zrun ?_ ?_
        exact cw_ret1 rfl rfl hv
      · have t4 : tag = 4 := by omega
        subst t4
        rw [hbur]
        refine zrun ?_ ?_
        refine x_call rfl rfl rfl trivial (ref11_BurstOf ways (w := []) hF hF.way (fun p hp => by have := hF.key p hp; have := ways_is; simp; omega) hP hB) ?_
        rintro v H1 hv
        refine ⟨trivial, ?_⟩
        refine zrun ?_ ?_
        exact cw_ret1 rfl rfl hv
end Go.Proofs.YtkdmcbacofafpaaDoor.X
