/- Chapter 11's document: the cells of a radix tree of pairs. -/
import Derived.Test.YtkdmcbacofafpaaDoorO11c
namespace Go.Proofs.YtkdmcbacofafpaaDoor.X
open Go Go.Proofs
set_option linter.unusedVariables false
set_option linter.unusedSimpArgs false
set_option maxRecDepth 10000
set_option maxHeartbeats 4000000

def tblR : Nat → Int
  | 0 => 4
  | 1 => 16
  | 2 => 48
  | _ => 256
def tblV : List Value := [.int .i64 4, .int .i64 16, .int .i64 48, .int .i64 256]
theorem radKind_is {t k : Nat} (ht : t ≤ 3) (h1 : ∀ s, s < t → tblR s < k) (h2 : (k : Int) ≤ tblR t) : radKind k = 6 + t := by
  unfold radKind
  match t, ht with
  | 0, _ => have : (k : Int) ≤ 4 := h2; rw [if_pos (by omega)]; rfl
  | 1, _ => have : (k : Int) ≤ 16 := h2; have h0 : (4 : Int) < k := h1 0 (by omega); rw [if_neg (by omega), if_pos (by omega)]; rfl
  | 2, _ => have : (k : Int) ≤ 48 := h2; have h0 : (4 : Int) < k := h1 0 (by omega); have h3 : (16 : Int) < k := h1 1 (by omega); rw [if_neg (by omega), if_neg (by omega), if_pos (by omega)]; rfl
  | 3, _ => have : (k : Int) ≤ 256 := h2; have h0 : (4 : Int) < k := h1 0 (by omega); have h3 : (16 : Int) < k := h1 1 (by omega); have h4 : (48 : Int) < k := h1 2 (by omega); rw [if_neg (by omega), if_neg (by omega), if_neg (by omega)]; rfl
  | t + 4, h => omega
theorem okm_csR {ops : List Oper} {ri : RI} {i : Nat} {H0 H H' : Heap} {b : Nat} {cs : List Value} (hk : Keep Non H H') : okm ops (.held (CsR H0 b cs) ri) i H H' := fun c _ hC => by
  match c, hC with
  | 0, hC => exact Keep.non_trans hC hk
  | c + 1, hC => exact Cels.keep hC hk (fun _ h => h)
theorem drop_cons {α : Type} {l : List α} {j : Nat} {p : α} (h : l[j]? = some p) : l.drop j = p :: l.drop (j + 1) := by
  have hl := (List.getElem?_eq_some_iff.1 h).1
  rw [List.drop_eq_getElem_cons hl]
  rw [List.getElem?_eq_getElem hl] at h
  injection h with h
  rw [h]
theorem runs_at {n j : Nat} {X : List Pr} {p : Pr} (h : X[j]? = some p) : ∃ m, 0 < m ∧ j + m ≤ X.length ∧ runs n (X.drop j) = (X.drop j).take m :: runs n (X.drop (j + m)) ∧ (∀ k q, j ≤ k → k < j + m → X[k]? = some q → byK n q = byK n p) ∧ ∀ q, X[j + m]? = some q → byK n q ≠ byK n p := by
  have hd := drop_cons h
  have hl := (List.getElem?_eq_some_iff.1 h).1
  refine ⟨eqN n (byK n p) (X.drop j), ?_, ?_, ?_, fun k q h1 h2 hq => ?_, fun q hq => ?_⟩
  · rw [hd]; exact eqN_pos
  · have := eqN_le n (byK n p) (X.drop j)
    rw [List.length_drop] at this
    omega
  · rw [← List.drop_drop]
    rw [hd]
    exact runs_cons n p (X.drop (j + 1))
  · exact eqN_eq (j := k - j) (l := X.drop j) (by omega) (by rw [List.getElem?_drop, show j + (k - j) = k by omega]; exact hq)
  · exact eqN_end (l := X.drop j) (by rw [List.getElem?_drop]; exact hq)

theorem ref11_RadixOf {B0 : Nat} : ∀ (f : Nat) {l : List Pr} {vp : Value} {H : Heap}, Few l → l.length ≤ f → PIn B0 H vp l → B0 ≤ H.size →
    Ret Tryd.prog 25 [vp] H (OfR B0 (radixOf f l) H) := by
  intro f
  induction f with
  | zero =>
    intro l vp H hF hl hP hB
    have hl0 : l = [] := List.length_eq_zero_iff.1 (by omega)
    subst hl0
    have sP : IsSl vp 0 := hP.row.sl
    refine ret_of Tryd.func25 rfl rfl rfl rfl ?_
    intro w0
    refine zrun ?_ ?_
    exact cw_ret1 rfl rfl ⟨Keep.refl _ _, CO.nil _ _ _⟩
  | succ f ih =>
    intro l vp H hF hl hP hB
    have sP := hP.row.sl
    have cP := sP.cap
    have h40 := hF.len
    refine ret_of Tryd.func25 rfl rfl rfl rfl ?_
    intro w0
    refine zrun ?_ ?_
    refine cw_cond rfl (fun h0 => ?_) (fun h0 => ?_) <;> (try simp at h0)
    · have hl0 : l = [] := by first | exact h0 | exact List.length_eq_zero_iff.1 (by omega)
      subst hl0
      refine zrun ?_ ?_
      exact cw_ret1 rfl rfl ⟨Keep.refl _ _, CO.nil _ _ _⟩
    · have hne : l ≠ [] := fun e => by rw [e] at h0; simp at h0
      have hpos := List.length_pos_iff.2 hne
      obtain ⟨p0, hp0⟩ : ∃ p, l[0]? = some p := ⟨_, List.getElem?_eq_getElem hpos⟩
      obtain ⟨k0, z0, z1, z2⟩ := hP.at_ hp0
      have hkr := Keep.refl Non H
      have sK0 := z2.1.sl
      have cK0 := sK0.cap
      have hk0 := hF.key p0 (List.mem_of_getElem? hp0)
      refine zrun ?_ ?_
      refine cw_cond rfl (fun h1 => ?_) (fun h1 => ?_) <;> (try simp at h1)
      · have hl1 : l = [p0] := by
          match l, hp0, h1 with
          | [q], hp0, _ => simp at hp0; rw [hp0]
          | _ :: _ :: _, _, h1 => simp at h1; omega
        have hcr : radixOf (f + 1) l = [{ kind := 5, count := 1, val := p0.2, key := p0.1 }] := by rw [hl1]; rfl
        rw [hcr]
        refine zrunc ?_ ?_
        refine cw_held (fun _ => Keep Non H) ⟨[9], [(3, 0), (7, 0)]⟩ (.op 0 (.op 1 (.op 2 (.op 3 (.op 4 (.op 5 (.op 6 (.op 7 (.op 8 (.op 9 (.op 10 (.nil)))))))))))) panicOk_body mixed (by kernel_rfl) ?_
        refine zhrun ?_ ?_
        refine x_load rfl rfl (hpmk rfl (fun _ hk => hk.cel z0 (fun h => h))) rfl (okq_load rfl rfl (by assumption)) ?_
        refine zhrun ?_ ?_
        refine x_load rfl rfl (hpmk rfl (fun _ hk => hk.cel z1 (fun h => h))) rfl (okq_load rfl rfl (by assumption)) ?_
        refine zhrun ?_ ?_
        refine x_build (cs := encC (({ kind := 5, count := 1, val := p0.2, key := p0.1 } : Cel), k0, .slice none 0 0)) rfl rfl rfl (ocp_cons rfl (ocp_cons (isSl_oneC sK0) (ocp_cons rfl (ocp_cons rfl ocp_nil)))) rfl (okq_reg rfl rfl) ?_
        refine zhrun ?_ ?_
        refine x_buildSliceS1 (by rfl) rfl rfl (by omega) (by rfl) rfl ⟨rfl, rfl⟩ ?_
        intro H1 hn1
        refine ⟨okm_keep hn1.keep (fun _ _ h => h), ?_⟩
        refine zhrun ?_ ?_
        refine zrun ?_ ?_
        exact cw_ret1 rfl rfl ⟨hn1.keep, CO.one hn1 ⟨rfl, z2, PsK.nil _ _, fun h => absurd rfl h⟩⟩
      · have h2 : 2 ≤ l.length := by omega
        obtain ⟨pn, hpn⟩ : ∃ p, l[l.length - 1]? = some p := ⟨_, List.getElem?_eq_getElem (by omega)⟩
        obtain ⟨kn, y0, _, y2⟩ := hP.at_ hpn
        have hlm : ((l.length : Int) - 1).toNat = l.length - 1 := by omega
        have hsh := share_cut hp0 hpn
        have hcm : common p0.1 pn.1 = (shareK l).length := by rw [shareK_len, firstK_get hp0, lastK_get hpn]
        have hmay := hF.may
        have hWs := share_way hF.rise hmay
        have hro := runsR_ok hF.rise hmay
        obtain ⟨rt2, rtl⟩ := runsR_two hF.rise hmay h2
        obtain ⟨o1, o2, o3⟩ := own_off hWs
        have hrs := radixOf_size (f + 1) hF.rise hmay hne hl
        rw [radixOf_node h2, List.length_cons] at hrs
        rw [radixOf_node h2]
        rw [hcm] at hsh
        obtain ⟨n, hn⟩ : ∃ n, n = (shareK l).length := ⟨_, rfl⟩
        have hn20 : n ≤ p0.1.length := by
          have := (common_le p0.1 pn.1).1
          omega
        obtain ⟨X, hX⟩ : ∃ X, X = offOwn n l := ⟨_, rfl⟩
        obtain ⟨own, how⟩ : ∃ own, own = ownV n l := ⟨_, rfl⟩
        have hrr : runsR l = runs n X := by rw [hX, hn]; rfl
        have hnode : nodeR l = { kind := radKind (runs n X).length, count := (l.length : Int), kids := ((runs n X).length : Int), full := own.isSome, val := own.getD 0, key := shareK l } := by
          unfold nodeR
          rw [hrr, how, hn]
        rw [hnode, hrr]
        rw [hrr] at hro rtl hrs
        rw [← hn] at o2 o3 hsh hcm
        rw [← hn, ← hX] at hro
        rw [← hX] at o2 o3
        have hX40 := o3.length_le
        have hrl : (runs n X).length ≤ 40 := by
          have h1 := flat_le (gs := runs n X) (fun g hg => by obtain ⟨b, _, h, _⟩ := hro.one g hg; exact h)
          rw [hro.flat] at h1
          omega
        refine zrunc ?_ ?_
        refine cw_cut (fun _ : Unit => [(0, vp), (2, .slice none 0 0), (3, .int .i64 n)]) (fun _ H' => H = H') ?_ ?_
        · refine cw_held (fun _ => Keep Non H) ⟨[11], [(3, 0), (10, 0)]⟩ (.op 0 (.op 1 (.op 2 (.op 3 (.op 4 (.op 5 (.op 6 (.op 7 (.op 8 (.op 9 (.op 10 (.op 11 (.op 12 (.nil)))))))))))))) panicOk_body mixed (by kernel_rfl) ?_
          refine zhrun ?_ ?_
          refine x_load rfl rfl (hpmk rfl (fun _ hk => hk.cel z0 (fun h => h))) rfl (okq_load rfl rfl (by assumption)) ?_
          refine zhrun ?_ ?_
          refine x_load rfl rfl (hpmk rfl (fun _ hk => hk.cel (o := so vp + ((l.length : Int) - 1).toNat * 2) (by rw [hlm]; exact y0) (fun h => h))) rfl (okq_load rfl rfl (by assumption)) ?_
          refine zhrun ?_ ?_
          refine x_call rfl rfl rfl ⟨rfl, rfl⟩ (ref_Common z2.1 y2.1) ?_
          rintro _ _ ⟨rfl, rfl⟩
          rw [hcm]
          refine ⟨okm_keep hkr (fun _ _ h => h), ?_⟩
          refine zhrun ?_ ?_
          refine zrun ?_ ?_
          exact nw_meet () (by repeat (first | exact True.intro | refine ⟨rfl, ?_⟩)) rfl
        rintro _ _ rfl
        refine zrun ?_ ?_
        refine x_load rfl rfl (hpmt (z0)) rfl trivial ?_
        refine zrun ?_ ?_
        refine x_slice_h rfl rfl rfl sK0 (by omega) (by omega) rfl trivial ?_
        intro uk huk hcuk
        have Kk : KSt (fun z => z < B0) H uk (shareK l) := by rw [hsh]; exact z2.cut huk hcuk hn20
        have suk := Kk.1.sl
        refine zrun ?_ ?_
        refine x_build (cs := encC (({ count := (l.length : Int), key := shareK l } : Cel), uk, .slice none 0 0)) rfl rfl rfl (ocp_cons (isSl_oneC suk) (ocp_cons rfl ocp_nil)) rfl trivial ?_
        refine x_alloc rfl rfl trivial ?_
        intro H1 hn1
        refine ⟨trivial, ?_⟩
        have hs1 := hn1.size
        refine x_stores rfl rfl rfl rfl (CelR.oneC (W := fun z => z < B0) (H := H) (c := { count := (l.length : Int), key := shareK l }) ⟨rfl, Kk, PsK.nil _ _, fun h => absurd rfl h⟩) hn1.blk (by simp [encC]) trivial ?_
        intro H2 hB2 hk2 hs2
        refine ⟨trivial, ?_⟩
        have hk02 : Keep Non H H2 := keep_at hn1.keep hk2 (Nat.le_refl _)
        have hB2 : Blk H2 H.size (encC (({ count := (l.length : Int), key := shareK l } : Cel), uk, .slice none 0 0)) := hB2
        refine zrunc ?_ ?_
        refine cw_cut (fun e : Bool => [(0, vp), (3, .int .i64 n), (4, ptr H.size 0), (51, .bool e)]) (fun e H' => H2 = H' ∧ e = own.isSome) ?_ ?_
        · refine zrun ?_ ?_
          refine x_load rfl rfl (hpmt (hk02.cel z0 (fun h => h))) rfl trivial ?_
          refine zrun ?_ ?_
          refine nw_meet _ (by repeat (first | exact True.intro | refine ⟨rfl, ?_⟩)) ⟨rfl, ?_⟩
          rw [how, ownV_is hp0]
          by_cases hpn' : p0.1.length = n
          · rw [decide_eq_true hpn', hpn']; simp
          · rw [decide_eq_false hpn']; exact beq_eq_false_iff_ne.2 (fun e => hpn' (by omega))
        rintro e _ ⟨rfl, rfl⟩
        refine zrunc ?_ ?_
        refine cw_cut (fun u : Value => [(0, u), (3, .int .i64 n), (4, ptr H.size 0)]) (fun u H' => Keep (· = H.size) H2 H' ∧ Blk H' H.size (encC (({ count := (l.length : Int), full := own.isSome, val := own.getD 0, key := shareK l } : Cel), uk, .slice none 0 0)) ∧ PIn B0 H' u X) ?_ ?_
        · cases hov : own with
          | none =>
            have e2 : X = l := by rw [hX]; unfold offOwn; rw [← how, hov]; rfl
            refine zrun ?_ ?_
            exact nw_meet vp (by repeat (first | exact True.intro | refine ⟨rfl, ?_⟩)) ⟨Keep.refl _ _, hB2, by rw [e2]; exact hP.keepN hk02⟩
          | some v =>
            have e2 : X = l.drop 1 := by rw [hX]; unfold offOwn; rw [← how, hov]; rfl
            have ep : p0.2 = v := by
              obtain ⟨q, hq, hqv⟩ := ownV_val (how.symm.trans hov)
              rw [hp0] at hq
              injection hq with hq
              rw [hq]; exact hqv
            rw [ep] at z1
            have hvb : sb vp < B0 := hP.off hne
            have z1' := hk02.cel z1 (fun h => h)
            have hkr2 := Keep.refl (fun z => z = H.size) H2
            refine zrunc ?_ ?_
            refine cw_held (fun _ => Keep (fun z => z = H.size) H2) ⟨[5, 7], [(3, 0)]⟩ (.op 0 (.op 1 (.op 2 (.op 3 (.op 4 (.op 5 (.op 6 (.op 7 (.nil))))))))) panicOk_body mixed (by kernel_rfl) ?_
            refine zhrun ?_ ?_
            refine x_load rfl rfl (hpmk rfl (fun _ hk => hk.cel z1' (fun (e : _ = _) => by omega))) rfl (okq_load rfl rfl (by assumption)) ?_
            refine zhrun ?_ ?_
            refine x_store rfl rfl rfl rfl hB2 (by simp [encC]) ⟨rfl, rfl⟩ ?_
            intro H3 hB3 hk3 hs3
            refine ⟨okm_keep hk3 (fun _ _ e => e), ?_⟩
            refine zhrun ?_ ?_
            refine x_store rfl rfl rfl rfl hB3 (by simp [encC]) ⟨rfl, rfl⟩ ?_
            intro H4 hB4 hk4 hs4
            refine ⟨okm_keep hk4 (fun _ _ e => e), ?_⟩
            have hk24 := hk3.step hk4 (fun _ _ e => e)
            refine zhrun ?_ ?_
            refine zrun ?_ ?_
            refine x_slice_l rfl rfl rfl sP (by omega) (by omega) rfl trivial ?_
            intro u10 hu10 hcu10
            have P10 := ((hP.keepN hk02).keep hk24 (fun z hz (e : z = _) => by omega)).cut (a := 1) (b := l.length) hu10 hcu10 (by omega) (Nat.le_refl _)
            rw [List.take_length, ← e2] at P10
            refine zrun ?_ ?_
            exact nw_meet u10 (by repeat (first | exact True.intro | refine ⟨rfl, ?_⟩)) ⟨hk24, hB4, P10⟩
        rintro u H3 ⟨hk23, hB3, P3⟩
        have hk03 : Keep Non H H3 := hk02.old hk23 (fun z hz (e : z = _) => by omega)
        have hs3 := hk03.size
        have hHb : H.size < H3.size := hB3.lt
        have sU := P3.row.sl
        have cU := sU.cap
        refine zrun ?_ ?_
        refine cw_loop (fun s : Nat × Value × List (List Pr) => [(0, u), (3, .int .i64 n), (4, ptr H.size 0), (5, s.2.1), (6, .int .i64 s.1)]) (fun s H' => s.1 ≤ X.length ∧ Keep (· = H.size) H3 H' ∧ Blk H' H.size (encC (({ count := (l.length : Int), kids := (s.2.2.length : Int), full := own.isSome, val := own.getD 0, key := shareK l } : Cel), uk, .slice none 0 0)) ∧ CO B0 H3.size H' s.2.1 (s.2.2.flatMap (radixOf f)) ∧ runs n X = s.2.2 ++ runs n (X.drop s.1)) (fun s => X.length - s.1) (0, .slice none 0 0, []) (by repeat (first | exact True.intro | refine ⟨rfl, ?_⟩)) ⟨Nat.zero_le _, Keep.refl _ _, hB3, CO.nil _ _ _, by simp⟩ ?_
        rintro ⟨j, v, done⟩ H4 ⟨hj, hk34, hB4, hC4, hrn⟩
        dsimp only at hj hB4 hC4 hrn ⊢
        have hs4 := hk34.size
        have hoff : ∀ z, z < B0 → ¬ (z = H.size) := fun z hz e => by omega
        have P4 := P3.keep hk34 hoff
        have hTl := congrArg (fun g => (List.flatMap (radixOf f) g).length) hrn
        simp only [List.flatMap_append, List.length_append] at hTl
        have hDl := congrArg List.length hrn
        rw [List.length_append] at hDl
        refine zrun ?_ ?_
        refine cw_cond rfl (fun hjl => ?_) (fun hjl => ?_) <;> (try simp at hjl)
        · have hjX : j < X.length := by omega
          obtain ⟨p, hp⟩ : ∃ p, X[j]? = some p := ⟨_, List.getElem?_eq_getElem hjX⟩
          obtain ⟨m, m0, mle, mrun, meq, mfin⟩ := runs_at (n := n) hp
          obtain ⟨kj, x0, _, x2⟩ := P4.at_ hp
          have sKj := x2.1.sl
          have hpl := o2 p (List.mem_of_getElem? hp)
          have hpg := byK_get hpl
          refine zrun ?_ ?_
          refine cw_loop (fun k : Nat => [(0, u), (3, .int .i64 n), (4, ptr H.size 0), (5, v), (6, .int .i64 j), (7, .int .i64 k)]) (fun k H' => H4 = H' ∧ j ≤ k ∧ k ≤ j + m) (fun k => j + m - k) j (by repeat (first | exact True.intro | refine ⟨rfl, ?_⟩)) ⟨rfl, Nat.le_refl _, by omega⟩ ?_
          rintro k _ ⟨rfl, hk1, hk2⟩
          refine zrunc ?_ ?_
          refine cw_cut (fun e : Bool => [(0, u), (3, .int .i64 n), (4, ptr H.size 0), (5, v), (6, .int .i64 j), (7, .int .i64 k), (87, .bool e)]) (fun e H' => H4 = H' ∧ e = decide (k < j + m)) ?_ ?_
          · refine cw_quiet mixed (by kernel_rfl) ?_
            refine zrun ?_ ?_
            refine x_split 69 rfl (fun hkl => ?_) (fun hkl => ?_) <;> (try simp at hkl)
            · obtain ⟨r, hr⟩ : ∃ r, X[k]? = some r := ⟨_, List.getElem?_eq_getElem (by omega)⟩
              obtain ⟨kk, w0', _, w2⟩ := P4.at_ hr
              have sKk := w2.1.sl
              have hrl' := o2 r (List.mem_of_getElem? hr)
              have hrg := byK_get hrl'
              refine zrun ?_ ?_
              refine x_load rfl rfl (hpmt (w0')) rfl trivial ?_
              refine zrun ?_ ?_
              refine x_load rfl rfl (hpmt (w2.1.get n _ hrg)) rfl trivial ?_
              refine zrun ?_ ?_
              refine x_load rfl rfl (hpmt (x0)) rfl trivial ?_
              refine zrun ?_ ?_
              refine x_load rfl rfl (hpmt (x2.1.get n _ hpg)) rfl trivial ?_
              refine zrun ?_ ?_
              refine nw_meet _ (by repeat (first | exact True.intro | refine ⟨rfl, ?_⟩)) ⟨rfl, ?_⟩
              rw [u8_eq]
              by_cases hkm : k < j + m
              · rw [decide_eq_true hkm, decide_eq_true (meq k r hk1 hkm hr)]
              · have hkm' : k = j + m := by omega
                rw [decide_eq_false hkm]
                exact decide_eq_false (mfin r (by rw [← hkm']; exact hr))
            · refine zrun ?_ ?_
              exact nw_meet false (by repeat (first | exact True.intro | refine ⟨rfl, ?_⟩)) ⟨rfl, (decide_eq_false (by omega)).symm⟩
          rintro e _ ⟨rfl, rfl⟩
          by_cases hkm : k < j + m
          · rw [decide_eq_true hkm]
            refine zrun ?_ ?_
            exact nw_round (k + 1) (by repeat (first | exact True.intro | refine ⟨rfl, ?_⟩)) ⟨rfl, by omega, by omega⟩ (by omega)
          · have hkm' : k = j + m := by omega
            rw [decide_eq_false hkm]
            subst hkm'
            clear hkm hk1 hk2
            have hrn' : runs n X = (done ++ [(X.drop j).take m]) ++ runs n (X.drop (j + m)) := by rw [hrn, mrun, List.append_assoc]; rfl
            have hg : (X.drop j).take m ∈ runs n X := by rw [hrn']; simp
            obtain ⟨b, _, hgne, hgW, _⟩ := hro.one _ hg
            have hgl := rtl _ hg
            have hgF : Few ((X.drop j).take m) := (hF.sub o3).sub ((List.take_sublist _ _).trans (List.drop_sublist _ _))
            have hTl' := congrArg (fun g => (List.flatMap (radixOf f) g).length) hrn'
            simp only [List.flatMap_append, List.length_append, List.flatMap_cons, List.flatMap_nil, List.append_nil] at hTl'
            have hDl' := congrArg List.length hrn'
            rw [List.length_append, List.length_append, List.length_singleton] at hDl'
            have k3 : cel H4 H.size 3 = some (.int .i64 done.length) := by rw [hB4.cel]; rfl
            refine zrun ?_ ?_
            refine x_slice_lh rfl rfl rfl rfl sU (by omega) (by omega) (by omega) rfl trivial ?_
            intro ug hug hcug
            have Pg := P4.cut (a := j) (b := j + m) hug hcug (by omega) (by omega)
            have eM : (X.take (j + m)).drop j = (X.drop j).take m := by rw [List.drop_take, Nat.add_sub_cancel_left]
            rw [eM] at Pg
            refine zrun ?_ ?_
            refine x_call rfl rfl rfl trivial (ih hgF (by omega) Pg (by omega)) ?_
            rintro vg H5 ⟨hk5, hC5⟩
            refine ⟨trivial, ?_⟩
            have hs5 := hk5.size
            have hC45 := hC4.keepN hk5
            obtain ⟨q1, w1, a1⟩ := hC45.row
            obtain ⟨q2, w2, a2⟩ := hC5.row
            refine zrun ?_ ?_
            refine x_append (by rfl) (by rfl) (by rfl) rfl rfl rfl w1 w2.sl (by rw [rws_length encC_len, a2.len]) w2.cels (al_oneC a2) (by omega) rfl trivial ?_
            intro v6 H6 hap
            refine ⟨trivial, ?_⟩
            have hC6 : CO B0 H3.size H6 v6 _ := CO.app a1 a2 hC45.fresh (by omega) (by omega) hap
            have hoffv : ∀ z, z < H3.size → ¬ (z = sb v ∧ (done.flatMap (radixOf f)).length + (radixOf f ((X.drop j).take m)).length ≤ sc v ∧ 0 < (radixOf f ((X.drop j).take m)).length) := fun z hz e => by have := hC4.fresh (by have := e.2; omega); have := e.1; omega
            have hB6 := (hB4.keep hk5 (fun h => h)).keep hap.keep (hoffv _ hHb)
            have hs6 := hap.keep.size
            have k3' : cel H6 H.size 3 = some (.int .i64 done.length) := by rw [hB6.cel]; rfl
            refine zrun ?_ ?_
            refine x_load rfl rfl (hpmt (k3')) rfl trivial ?_
            refine zrun ?_ ?_
            refine x_store rfl rfl rfl rfl hB6 (by simp [encC]) trivial ?_
            intro H7 hB7 hk7 hs7
            refine ⟨trivial, ?_⟩
            have hC7 := hC6.keep hk7 hoff (fun hc (e : _ = _) => by have := hC6.fresh hc; omega)
            have hk37 : Keep (· = H.size) H3 H7 := ((hk34.step hk5 (fun _ _ h => h.elim)).step hap.keep (fun z hz e => absurd e (hoffv z hz))).step hk7 (fun _ _ e => e)
            refine zrun ?_ ?_
            refine nw_round (j + m, v6, done ++ [(X.drop j).take m]) (by repeat (first | exact True.intro | refine ⟨rfl, ?_⟩)) ⟨mle, hk37, ?_, ?_, hrn'⟩ (by simp only; omega)
            · have e : ((done ++ [(X.drop j).take m]).length : Int) = (done.length : Int) + 1 := by rw [List.length_append]; rfl
              dsimp only
              rw [e]
              exact hB7
            · dsimp only
              rw [List.flatMap_append, List.flatMap_cons, List.flatMap_nil, List.append_nil]
              exact hC7
        · have hjX : j = X.length := by omega
          have hdone : done = runs n X := by
            rw [hrn, hjX, List.drop_length, runs_nil, List.append_nil]
          subst hdone
          clear hrn hTl hDl
          have k0 : cel H4 H.size 0 = some (.int .i64 0) := by rw [hB4.cel]; rfl
          refine zrun ?_ ?_
          refine x_store rfl rfl rfl rfl hB4 (by simp [encC]) trivial ?_
          intro H5 hB5 hk5 hs5
          refine ⟨trivial, ?_⟩
          have hk35 : Keep (· = H.size) H3 H5 := hk34.step hk5 (fun _ _ e => e)
          have hC5 := hC4.keep hk5 hoff (fun hc (e : _ = _) => by have := hC4.fresh hc; omega)
          refine zrun ?_ ?_
          refine cw_loop (fun t : Nat => [(4, ptr H.size 0), (5, v)]) (fun t H' => t ≤ 3 ∧ Keep (· = H.size) H5 H' ∧ Blk H' H.size (encC (({ kind := 6 + (t : Int), count := (l.length : Int), kids := ((runs n X).length : Int), full := own.isSome, val := own.getD 0, key := shareK l } : Cel), uk, .slice none 0 0)) ∧ ∀ s, s < t → tblR s < (runs n X).length) (fun t => 3 - t) 0 (by repeat (first | exact True.intro | refine ⟨rfl, ?_⟩)) ⟨Nat.zero_le _, Keep.refl _ _, hB5, fun s h => by omega⟩ ?_
          rintro t H6 ⟨ht, hk56, hB6, htb⟩
          have hs6 := hk56.size
          have k3 : cel H6 H.size 3 = some (.int .i64 (runs n X).length) := by rw [hB6.cel]; rfl
          have k0 : cel H6 H.size 0 = some (.int .i64 (6 + (t : Int))) := by rw [hB6.cel]; rfl
          refine zrunc ?_ ?_
          refine cw_cut (fun e : Bool => [(4, ptr H.size 0), (5, v), (111, .bool e)]) (fun e H' => Keep Non H6 H' ∧ e = decide (tblR t < (runs n X).length)) ?_ ?_
          · refine cw_held (CsR H6 H6.size tblV) ⟨[2], [(1, 0), (4, 0), (7, 1)]⟩ (.op 0 (.op 1 (.op 3 (.op 4 (.op 5 (.op 2 (.op 6 (.op 7 (.op 8 (.nil)))))))))) panicOk_body mixed (by kernel_rfl) ?_
            refine zhrun ?_ ?_
            refine x_load rfl rfl (hpmg rfl (fun h (hk : Keep Non H6 h) => hk.cel k3 (fun h => h))) rfl (okq_load rfl rfl (Keep.refl Non H6)) ?_
            refine zhrun ?_ ?_
            refine x_load rfl rfl (hpmg rfl (fun h (hk : Keep Non H6 h) => hk.cel k0 (fun h => h))) rfl (okq_load rfl rfl (Keep.refl Non H6)) ?_
            refine zhrun ?_ ?_
            refine x_buildSlice rfl rfl rfl rfl (by omega) (by simp [oneC, Value.oneCell']) rfl ⟨rfl, rfl⟩ ?_
            intro H7 hn7
            refine ⟨okm_csR hn7.keep, ?_⟩
            have s7 : IsSl (.slice (some ⟨H6.size, 0, none⟩) 4 4) 4 := isSl_some (Nat.le_refl _) (by omega)
            have hcl : Cels H7 H6.size 0 tblV := hn7.blk.cels 0 4 (by simp)
            have htt : ((6 + (t : Int)) - 6).toNat = t := by omega
            refine zhrun ?_ ?_
            have hld : ∀ h, Cels h H6.size 0 tblV → cel h H6.size (0 + ((6 + (t : Int)) - 6).toNat) = some (.int .i64 (tblR t)) := fun h hk => by
              rw [htt]
              match t, ht with
              | 0, _ => exact hk 0 (by simp [tblV])
              | 1, _ => exact hk 1 (by simp [tblV])
              | 2, _ => exact hk 2 (by simp [tblV])
              | 3, _ => exact hk 3 (by simp [tblV])
              | t + 4, h => omega
            refine x_load rfl rfl (hpmg (c := 1) rfl (fun h hk => hld h hk)) rfl (okq_load (c := 1) rfl rfl hcl) ?_
            refine zhrun ?_ ?_
            refine zrun ?_ ?_
            exact nw_meet _ (by repeat (first | exact True.intro | refine ⟨rfl, ?_⟩)) ⟨hn7.keep, rfl⟩
          rintro e H7 ⟨hk7, rfl⟩
          have hs7 := hk7.size
          have hB7 := hB6.keep hk7 (fun h => h)
          by_cases hgt : tblR t < (runs n X).length
          · rw [decide_eq_true hgt]
            have ht3 : t < 3 := by
              rcases Nat.lt_or_ge t 3 with h | h
              · exact h
              · have : t = 3 := by omega
                subst this
                have : (256 : Int) < (runs n X).length := hgt
                omega
            have k0' : cel H7 H.size 0 = some (.int .i64 (6 + (t : Int))) := by rw [hB7.cel]; rfl
            refine zrun ?_ ?_
            refine x_load rfl rfl (hpmt (k0')) rfl trivial ?_
            refine zrun ?_ ?_
            refine x_store rfl rfl rfl rfl hB7 (by simp [encC]) trivial ?_
            intro H8 hB8 hk8 hs8
            refine ⟨trivial, ?_⟩
            refine zrun ?_ ?_
            refine nw_round (t + 1) (by repeat (first | exact True.intro | refine ⟨rfl, ?_⟩)) ⟨ht3, (hk56.step hk7 (fun _ _ h => h.elim)).step hk8 (fun _ _ e => e), ?_, fun s hs => ?_⟩ (by omega)
            · have e : (6 + ((t + 1 : Nat) : Int)) = 6 + (t : Int) + 1 := by omega
              rw [e]
              exact hB8
            · by_cases hst : s = t
              · subst hst; exact hgt
              · exact htb s (by omega)
          · rw [decide_eq_false hgt]
            have hrk := radKind_is ht htb (by omega)
            rw [← hrk] at hB7
            have hk57 : Keep (· = H.size) H5 H7 := hk56.step hk7 (fun _ _ h => h.elim)
            have hC7 := hC5.keep hk57 hoff (fun hc (e : _ = _) => by have := hC5.fresh hc; omega)
            have hk07 : Keep Non H H7 := (hk03.old hk35 (fun z hz (e : z = _) => by omega)).old hk57 (fun z hz (e : z = _) => by omega)
            have hs07 := hk07.size
            have hy7 : CelR (fun z => z < B0) H7 (({ kind := radKind (runs n X).length, count := (l.length : Int), kids := ((runs n X).length : Int), full := own.isSome, val := own.getD 0, key := shareK l } : Cel), uk, .slice none 0 0) _ := ⟨rfl, Kk.step hk07 (fun _ _ h => h) (fun _ h => h), PsK.nil _ _, fun h => absurd rfl h⟩
            refine zrun ?_ ?_
            refine x_loads (cs := encC (({ kind := radKind (runs n X).length, count := (l.length : Int), kids := ((runs n X).length : Int), full := own.isSome, val := own.getD 0, key := shareK l } : Cel), uk, .slice none 0 0)) rfl rfl rfl (hpmt (hB7.cels 0 9 (by simp [encC]))) rfl trivial ?_
            refine zrun ?_ ?_
            refine x_buildSliceS1 (by rfl) rfl rfl (by omega) (by rfl) rfl trivial ?_
            intro H8 hn8
            refine ⟨trivial, ?_⟩
            have hs8 := hn8.size
            have hC8 := CO.one hn8 hy7
            obtain ⟨q1, w1, a1⟩ := hC8.row
            obtain ⟨q2, w2, a2⟩ := (hC7.keepN hn8.keep).row
            refine zrun ?_ ?_
            refine x_append (by rfl) (by rfl) (by rfl) rfl rfl rfl w1 w2.sl (by rw [rws_length encC_len, a2.len]) w2.cels (al_oneC a2) (by simp only [List.length_singleton]; omega) rfl trivial ?_
            intro v9 H9 hap
            refine ⟨trivial, ?_⟩
            have hC9 : CO B0 H7.size H9 v9 _ := CO.app a1 a2 hC8.fresh (by omega) (by omega) hap
            refine zrun ?_ ?_
            exact cw_ret1 rfl rfl ⟨hk07.non_trans (hap.old (H0 := H7) (fun hc => hC8.fresh hc) hn8.keep), hC9.mono (by omega)⟩
end Go.Proofs.YtkdmcbacofafpaaDoor.X
