/- Chapter 11's document: the cells of a crit-bit tree of pairs; rows of cells of the call's own. -/
import Derived.Test.YtkdmcbacofafpaaDoorK11o
namespace Go.Proofs.YtkdmcbacofafpaaDoor.X
open Go Go.Proofs
set_option linter.unusedVariables false
set_option linter.unusedSimpArgs false
set_option maxRecDepth 10000
set_option maxHeartbeats 4000000

/-- pairs that came in, all of it in blocks that were there -/
structure PIn (B0 : Nat) (H : Heap) (v : Value) (l : List Pr) : Prop where
  row : PsK (KSt (fun z => z < B0) H) H v l
  off : l ≠ [] → sb v < B0
theorem PIn.keep {B0 : Nat} {S : Nat → Prop} {H H' : Heap} {v : Value} {l : List Pr} (h : PIn B0 H v l) (k : Keep S H H') (hS : ∀ z, z < B0 → ¬ S z) : PIn B0 H' v l :=
  ⟨h.row.stepS (fun _ _ hb => hb.step k hS (fun _ h => h)) k (fun hne => hS _ (h.off hne)), h.off⟩
theorem PIn.keepN {B0 : Nat} {H H' : Heap} {v : Value} {l : List Pr} (h : PIn B0 H v l) (k : Keep Non H H') : PIn B0 H' v l := h.keep k (fun _ _ h => h)
theorem PIn.cut {B0 : Nat} {H : Heap} {v u : Value} {l : List Pr} {a b : Nat} (h : PIn B0 H v l) (hu : IsSl u (b - a)) (hc : CutOf u v a 2) (hab : a ≤ b) (hb : b ≤ l.length) : PIn B0 H u ((l.take b).drop a) := by
  refine ⟨h.row.cut hu hc hab hb, fun hne => ?_⟩
  have hlt : a < b := by
    rcases Nat.lt_or_ge a b with h1 | h1
    · exact h1
    · exfalso
      apply hne
      apply List.length_eq_zero_iff.1
      rw [List.length_drop, List.length_take]
      omega
  have hl : l ≠ [] := fun e => by rw [e] at hb; simp at hb; omega
  have := (hc.at_ (by have := h.row.sl.cap.1; omega)).1
  rw [this]
  exact h.off hl
theorem PIn.nil (B0 : Nat) (H : Heap) : PIn B0 H (.slice none 0 0) [] := ⟨PsK.nil _ _, fun h => absurd rfl h⟩
/-- one pair of them -/
theorem PIn.at_ {B0 : Nat} {H : Heap} {v : Value} {l : List Pr} (h : PIn B0 H v l) {i : Nat} {p : Pr} (hp : l[i]? = some p) : ∃ k, cel H (sb v) (so v + i * 2) = some k ∧ cel H (sb v) (so v + i * 2 + 1) = some (.int .u64 p.2) ∧ KSt (fun z => z < B0) H k p.1 := by
  obtain ⟨q, h1, h2⟩ := h.row.row
  obtain ⟨x, hx, hk⟩ := h1.get hp
  have hq : (pcs q)[i * 2]? = some x ∧ (pcs q)[i * 2 + 1]? = some (.int .u64 p.2) := pcs_get q i (x, p.2) hx
  refine ⟨x, ?_, ?_, hk⟩
  · have hl := (List.getElem?_eq_some_iff.1 hq.1).1
    rw [h2 (i * 2) hl, ← List.getElem?_eq_getElem hl]
    exact hq.1
  · have hl := (List.getElem?_eq_some_iff.1 hq.2).1
    rw [Nat.add_assoc, h2 (i * 2 + 1) hl, ← List.getElem?_eq_getElem hl]
    exact hq.2
/-- cells in a row of the call's own, what they hold in blocks that were there -/
structure CO (B0 B : Nat) (H : Heap) (v : Value) (l : List Cel) : Prop where
  row : ∃ q, Own 9 H v l.length (rws encC q) ∧ Al (CelR (fun z => z < B0) H) q l
  fresh : 0 < sc v → B ≤ sb v
section
variable {B0 B : Nat} {H H' : Heap} {v v' : Value} {l lx : List Cel}
theorem CO.nil (B0 B : Nat) (H : Heap) : CO B0 B H (.slice none 0 0) [] := ⟨⟨[], Own.nil 9 H, Al.nil _⟩, fun h => by simp [sc] at h⟩
theorem CO.keep {S : Nat → Prop} (h : CO B0 B H v l) (k : Keep S H H') (h0 : ∀ z, z < B0 → ¬ S z) (h1 : 0 < sc v → ¬ S (sb v)) : CO B0 B H' v l := by
  obtain ⟨q, ho, ha⟩ := h.row
  exact ⟨⟨q, ho.keep k h1, ha.mono fun _ _ hc => hc.step k h0 (fun _ h => h)⟩, h.fresh⟩
theorem CO.keepN (h : CO B0 B H v l) (k : Keep Non H H') : CO B0 B H' v l := h.keep k (fun _ _ h => h) (fun _ h => h)
theorem CO.mono {B' : Nat} (h : CO B0 B H v l) (hb : B' ≤ B) : CO B0 B' H v l := ⟨h.row, fun hc => Nat.le_trans hb (h.fresh hc)⟩
theorem CO.sl (h : CO B0 B H v l) : IsSl v l.length := let ⟨_, ho, _⟩ := h.row; ho.sl
theorem CO.one {y : Cel × Value × Value} {c : Cel} (hn : New H H' (encC y)) (hy : CelR (fun z => z < B0) H y c) : CO B0 H.size H' (.slice (some ⟨H.size, 0, none⟩) 1 1) [c] :=
  ⟨⟨[y], by rw [rws_one]; exact Own.new (s := 9) (n := 1) hn (by rfl) (by omega), Al.one (hy.step hn.keep (fun _ _ h => h) (fun _ h => h))⟩, fun _ => Nat.le_refl _⟩
theorem al_oneC {W : Nat → Prop} {q : List (Cel × Value × Value)} (h : Al (CelR W H) q l) : ∀ x ∈ rws encC q, oneC x = true := rws_oneC fun x hx => by
  obtain ⟨i, hi⟩ := List.mem_iff_getElem?.1 hx
  have hl := (List.getElem?_eq_some_iff.1 hi).1
  have hlen := h.len
  exact CelR.oneC (h.at_ i x _ hi (List.getElem?_eq_getElem (by omega)))
theorem CO.app {q qx : List (Cel × Value × Value)} (ha : Al (CelR (fun z => z < B0) H) q l) (hax : Al (CelR (fun z => z < B0) H) qx lx) (hf : 0 < sc v → B ≤ sb v) (hB : B0 ≤ B) (hs : B ≤ H.size) (hap : App 9 H H' v v' l.length (rws encC q) (rws encC qx) lx.length) : CO B0 B H' v' (l ++ lx) := by
  have hoff : ∀ z, z < B0 → ¬ (z = sb v ∧ l.length + lx.length ≤ sc v ∧ 0 < lx.length) := fun z hz e => by have := hf (by have := e.2; omega); have := e.1; omega
  refine ⟨⟨q ++ qx, by rw [List.length_append, rws_append]; exact hap.own, (ha.mono fun _ _ hc => hc.step hap.keep hoff (fun _ h => h)).append (hax.mono fun _ _ hc => hc.step hap.keep hoff (fun _ h => h))⟩, fun hc => ?_⟩
  rcases hap.place with ⟨e1, e2, e3, _⟩ | ⟨e1, _⟩
  · rw [e1]; exact hf (by omega)
  · omega
theorem CO.cr (h : CO B0 B H v l) (hB : B0 ≤ H.size) : CR H.size H v l ∧ (l ≠ [] → sb v < H.size) := by
  obtain ⟨q, ho, ha⟩ := h.row
  refine ⟨⟨ho.sl, q, ha.mono fun _ _ hc => hc.step (Keep.refl Non H) (fun _ _ h => h) (fun z hz => by omega), ho.cels⟩, fun hne => ho.lt ?_⟩
  have := ho.sl.cap.1
  have := List.length_pos_iff.2 hne
  omega
end
/-- an append of cells to cells -/
def OfR (B0 : Nat) (l : List Cel) (H : Heap) (r : Value) (H' : Heap) : Prop := Keep Non H H' ∧ CO B0 H.size H' r l

def critC (f : Nat) (l : List Pr) : List Cel := if l = [] then [] else (critT f l).cells
theorem critC_le {f : Nat} {l : List Pr} (h : Few l) (hf : l.length ≤ f) : (critC f l).length ≤ 100 := by
  unfold critC
  split
  · exact Nat.zero_le _
  · rename_i hne
    have h1 := (critT_ok f h.rise hne hf h.may).1
    have h2 := CT.size_pairs (critT f l)
    rw [h1] at h2
    rw [CT.cells_len]
    have := h.len
    omega
theorem Few.sub {l l' : List Pr} (h : Few l) (hs : List.Sublist l' l) : Few l' := ⟨rises_pw.2 ((rises_pw.1 h.rise).sublist hs), Nat.le_trans hs.length_le h.len, fun p hp => h.key p (hs.subset hp)⟩

theorem ref11_CritOf {B0 : Nat} : ∀ (f : Nat) {l : List Pr} {vp : Value} {H : Heap}, Few l → l.length ≤ f → PIn B0 H vp l → B0 ≤ H.size →
    Ret Tryd.prog 19 [vp] H (OfR B0 (critC f l) H) := by
  intro f
  induction f with
  | zero =>
    intro l vp H hF hl hP hB
    have hl0 : l = [] := List.length_eq_zero_iff.1 (by omega)
    subst hl0
    have sP : IsSl vp 0 := hP.row.sl
    refine ret_of Tryd.func19 rfl rfl rfl rfl ?_
    intro w0
    refine zrun ?_ ?_
    exact cw_ret1 rfl rfl ⟨Keep.refl _ _, CO.nil _ _ _⟩
  | succ f ih =>
    intro l vp H hF hl hP hB
    have sP := hP.row.sl
    have cP := sP.cap
    have h40 := hF.len
    refine ret_of Tryd.func19 rfl rfl rfl rfl ?_
    intro w0
    refine zrun ?_ ?_
    refine cw_cond rfl (fun h0 => ?_) (fun h0 => ?_) <;> (try simp at h0)
    · have hl0 : l = [] := by first | exact h0 | exact List.length_eq_zero_iff.1 (by omega)
      subst hl0
      refine zrun ?_ ?_
      exact cw_ret1 rfl rfl ⟨Keep.refl _ _, CO.nil _ _ _⟩
    · have hne : l ≠ [] := fun e => by rw [e] at h0; simp at h0
      have hpos := List.length_pos_iff.2 hne
      obtain ⟨p0, hp0⟩ : ∃ p, l[0]? = some p := ⟨_, List.getElem?_eq_getElem hpos⟩
      obtain ⟨k0, z0, z1, z2⟩ := hP.at_ hp0
      have hkr := Keep.refl Non H
      have sK0 := z2.1.sl
      have hk0 := hF.key p0 (List.mem_of_getElem? hp0)
      refine zrun ?_ ?_
      refine cw_cond rfl (fun h1 => ?_) (fun h1 => ?_) <;> (try simp at h1)
      · have hl1 : l = [p0] := by
          match l, hp0, h1 with
          | [q], hp0, _ => simp at hp0; rw [hp0]
          | _ :: _ :: _, _, h1 => simp at h1; omega
        have hcr : critC (f + 1) l = [{ kind := 1, count := 1, val := p0.2, key := p0.1 }] := by rw [hl1]; rfl
        rw [hcr]
        refine zrunc ?_ ?_
        refine cw_held (fun _ => Keep Non H) ⟨[9], [(3, 0), (7, 0)]⟩ (.op 0 (.op 1 (.op 2 (.op 3 (.op 4 (.op 5 (.op 6 (.op 7 (.op 8 (.op 9 (.op 10 (.nil)))))))))))) panicOk_body mixed (by kernel_rfl) ?_
        refine zhrun ?_ ?_
        refine x_load rfl rfl (hpmk rfl (fun _ hk => hk.cel z0 (fun h => h))) rfl (okq_load rfl rfl (by assumption)) ?_
        refine zhrun ?_ ?_
        refine x_load rfl rfl (hpmk rfl (fun _ hk => hk.cel z1 (fun h => h))) rfl (okq_load rfl rfl (by assumption)) ?_
        refine zhrun ?_ ?_
        refine x_build (cs := encC (({ kind := 1, count := 1, val := p0.2, key := p0.1 } : Cel), k0, .slice none 0 0)) rfl rfl rfl (ocp_cons rfl (ocp_cons (isSl_oneC sK0) (ocp_cons rfl (ocp_cons rfl ocp_nil)))) rfl (okq_reg rfl rfl) ?_
        refine zhrun ?_ ?_
        refine x_buildSliceS1 (by rfl) rfl rfl (by omega) (by rfl) rfl ⟨rfl, rfl⟩ ?_
        intro H1 hn1
        refine ⟨okm_keep hn1.keep (fun _ _ h => h), ?_⟩
        refine zhrun ?_ ?_
        refine zrun ?_ ?_
        exact cw_ret1 rfl rfl ⟨hn1.keep, CO.one hn1 ⟨rfl, z2, PsK.nil _ _, fun h => absurd rfl h⟩⟩
      · have h2 : 2 ≤ l.length := by omega
        obtain ⟨d, k, hc⟩ := cutC hF.rise h2
        have hck := hc.pos
        have hcl := hc.lt
        obtain ⟨pn, hpn⟩ : ∃ p, l[l.length - 1]? = some p := ⟨_, List.getElem?_eq_getElem (by omega)⟩
        obtain ⟨kn, y0, _, y2⟩ := hP.at_ hpn
        have hlm : ((l.length : Int) - 1).toNat = l.length - 1 := by omega
        have hdf := hc.diff
        rw [firstK_get hp0, lastK_get hpn] at hdf
        have hla : (l.take k).length = k := by rw [List.length_take]; omega
        have hlb : (l.drop k).length = l.length - k := List.length_drop
        have hna : l.take k ≠ [] := fun e => by rw [e] at hla; simp at hla; omega
        have hnb : l.drop k ≠ [] := fun e => by rw [e] at hlb; simp at hlb; omega
        have hFa := hF.sub (List.take_sublist k l)
        have hFb := hF.sub (List.drop_sublist k l)
        have hcr : critC (f + 1) l = { kind := 2, at_ := d, kids := 2, count := (l.length : Int) } :: (critC f (l.take k) ++ critC f (l.drop k)) := by
          have hpp := (critT_ok (f + 1) hF.rise hne hl hF.may).1
          unfold critC
          rw [if_neg hne, if_neg hna, if_neg hnb, critT_node hc]
          rw [critT_node hc] at hpp
          have hpp : (critT f (l.take k)).pairs ++ (critT f (l.drop k)).pairs = l := hpp
          show ({ kind := 2, at_ := d, kids := 2, count := (((critT f (l.take k)).pairs ++ (critT f (l.drop k)).pairs).length : Nat) } : Cel) :: _ = _
          rw [hpp]
        have hd9 : (d : Int) ≤ 1000 := by
          have hlt' := rises_lt hF.rise (by omega : 0 < l.length - 1) hp0 hpn
          have hne' : p0.1 ≠ pn.1 := fun e => by rw [e, cmp_self] at hlt'; cases hlt'
          obtain ⟨e, he, _, _, hmx, _⟩ := differ_spec hne'
          have hkn := hF.key pn (List.mem_of_getElem? hpn)
          omega
        rw [hcr]
        refine zrunc ?_ ?_
        refine cw_cut (fun _ : Unit => [(0, vp), (2, .slice none 0 0), (3, .int .i64 d)]) (fun _ H' => H = H') ?_ ?_
        · refine cw_held (fun _ => Keep Non H) ⟨[11], [(3, 0), (10, 0)]⟩ (.op 0 (.op 1 (.op 2 (.op 3 (.op 4 (.op 5 (.op 6 (.op 7 (.op 8 (.op 9 (.op 10 (.op 11 (.op 12 (.nil)))))))))))))) panicOk_body mixed (by kernel_rfl) ?_
          refine zhrun ?_ ?_
          refine x_load rfl rfl (hpmk rfl (fun _ hk => hk.cel z0 (fun h => h))) rfl (okq_load rfl rfl (by assumption)) ?_
          refine zhrun ?_ ?_
          refine x_load rfl rfl (hpmk rfl (fun _ hk => hk.cel (o := so vp + ((l.length : Int) - 1).toNat * 2) (by rw [hlm]; exact y0) (fun h => h))) rfl (okq_load rfl rfl (by assumption)) ?_
          refine zhrun ?_ ?_
          refine x_call rfl rfl rfl ⟨rfl, rfl⟩ (ref_Differ z2.1 y2.1 (by omega)) ?_
          rintro _ _ ⟨rfl, rfl⟩
          rw [hdf]
          refine ⟨okm_keep hkr (fun _ _ h => h), ?_⟩
          refine zhrun ?_ ?_
          refine zrun ?_ ?_
          exact nw_meet () (by repeat (first | exact True.intro | refine ⟨rfl, ?_⟩)) rfl
        rintro _ _ rfl
        refine zrun ?_ ?_
        refine cw_loop (fun j : Nat => [(0, vp), (2, .slice none 0 0), (3, .int .i64 d), (4, .int .i64 j)]) (fun j H' => H = H' ∧ j ≤ k) (fun j => k - j) 0 (by repeat (first | exact True.intro | refine ⟨rfl, ?_⟩)) ⟨rfl, Nat.zero_le _⟩ ?_
        rintro j _ ⟨rfl, hj⟩
        refine zrun ?_ ?_
        refine x_split 38 rfl (fun hjl => ?_) (fun hjl => ?_) <;> (try simp at hjl)
        · obtain ⟨p, hp⟩ : ∃ p, l[j]? = some p := ⟨_, List.getElem?_eq_getElem (by omega)⟩
          obtain ⟨kj, x0, _, x2⟩ := hP.at_ hp
          have hbit := hc.bit j p hp
          refine zrun ?_ ?_
          refine x_load rfl rfl (hpmt (x0)) rfl trivial ?_
          refine zrun ?_ ?_
          refine x_call rfl rfl rfl trivial (ref_Bit (d : Int) (by omega) x2.1) ?_
          rintro _ _ ⟨rfl, rfl⟩
          refine ⟨trivial, ?_⟩
          rw [hbit]
          by_cases hjk : j < k
          · rw [if_pos hjk]
            refine zrun ?_ ?_
            exact nw_round (j + 1) (by repeat (first | exact True.intro | refine ⟨rfl, ?_⟩)) ⟨rfl, hjk⟩ (by omega)
          · have hjk' : j = k := by omega
            subst hjk'
            rw [if_neg hjk]
            refine zrun ?_ ?_
            refine x_build (cs := encC (({ kind := 2, at_ := d, kids := 2, count := (l.length : Int) } : Cel), .slice none 0 0, .slice none 0 0)) rfl rfl rfl (ocp_cons rfl (ocp_cons rfl (ocp_cons rfl (ocp_cons rfl ocp_nil)))) rfl trivial ?_
            refine zrun ?_ ?_
            refine x_buildSliceS1 (by rfl) rfl rfl (by omega) (by rfl) rfl trivial ?_
            intro H1 hn1
            refine ⟨trivial, ?_⟩
            have hs1 := hn1.size
            have hO1 : CO B0 H.size H1 (.slice (some ⟨H.size, 0, none⟩) 1 1) [{ kind := 2, at_ := d, kids := 2, count := (l.length : Int) }] := CO.one hn1 ⟨rfl, ⟨Bs.nil _, fun h => absurd rfl h⟩, PsK.nil _ _, fun h => absurd rfl h⟩
            have hla' := critC_le (f := f) hFa (by omega)
            have hlb' := critC_le (f := f) hFb (by omega)
            refine zrunc ?_ ?_
            refine cw_held (fun _ _ => True) ⟨[4, 5, 9, 10], []⟩ (.op 0 (.op 1 (.op 2 (.op 3 (.op 6 (.op 7 (.op 8 (.op 4 (.op 5 (.op 9 (.op 10 (.op 11 (.nil))))))))))))) panicOk_body mixed (by kernel_rfl) ?_
            refine zhrun ?_ ?_
            refine x_slice_h rfl rfl rfl sP (by omega) (by omega) rfl (okq_reg rfl rfl) ?_
            intro u1 hu1 hcu1
            have P1 := hP.cut (a := 0) (b := j) hu1 hcu1 (by omega) (by omega)
            rw [List.drop_zero] at P1
            refine zhrun ?_ ?_
            refine x_slice_l rfl rfl rfl sP (by omega) (by omega) rfl (okq_reg rfl rfl) ?_
            intro u2 hu2 hcu2
            have P2 := hP.cut (a := j) (b := l.length) hu2 hcu2 (by omega) (by omega)
            rw [List.take_length] at P2
            refine zhrun ?_ ?_
            refine x_call rfl rfl rfl ⟨rfl, rfl⟩ (ih hFa (by omega) (P1.keepN hn1.keep) (by omega)) ?_
            rintro v2 H2 ⟨hk2, hO2⟩
            refine ⟨okm_nil rfl, ?_⟩
            have hs2 := hk2.size
            obtain ⟨q1, o1, a1⟩ := (hO1.keepN hk2).row
            obtain ⟨q2, o2, a2⟩ := hO2.row
            have sV2 := o2.sl
            refine zhrun ?_ ?_
            refine x_append (by rfl) (by rfl) (by rfl) rfl rfl rfl o1 sV2 (by rw [rws_length encC_len, a2.len]) o2.cels (al_oneC a2) (by simp only [List.length_singleton]; omega) rfl ⟨rfl, rfl⟩ ?_
            intro v3 H3 hap3
            refine ⟨okm_nil rfl, ?_⟩
            have hO3 : CO B0 H.size H3 v3 _ := CO.app a1 a2 (fun hc => (hO1.keepN hk2).fresh hc) hB (by omega) hap3
            have hs3 := hap3.keep.size
            have hk03 : Keep Non H H3 := hap3.old (H0 := H) (fun hc => by show H.size ≤ sb (Value.slice (some ⟨H.size, 0, none⟩) 1 1); exact Nat.le_refl _) (hn1.keep.non_trans hk2)
            refine zhrun ?_ ?_
            refine x_call rfl rfl rfl ⟨rfl, rfl⟩ (ih hFb (by omega) (P2.keepN hk03) (by omega)) ?_
            rintro v4 H4 ⟨hk4, hO4⟩
            refine ⟨okm_nil rfl, ?_⟩
            have hs4 := hk4.size
            have hO3' := hO3.keepN hk4
            obtain ⟨q3, o3, a3⟩ := hO3'.row
            obtain ⟨q4, o4, a4⟩ := hO4.row
            have sV4 := o4.sl
            refine zhrun ?_ ?_
            refine x_append (by rfl) (by rfl) (by rfl) rfl rfl rfl o3 sV4 (by rw [rws_length encC_len, a4.len]) o4.cels (al_oneC a4) (by rw [List.length_append, List.length_singleton]; omega) rfl ⟨rfl, rfl⟩ ?_
            intro v5 H5 hap5
            refine ⟨okm_nil rfl, ?_⟩
            have hO5 : CO B0 H.size H5 v5 _ := CO.app a3 a4 hO3'.fresh hB (by omega) hap5
            refine zhrun ?_ ?_
            refine zrun ?_ ?_
            refine cw_ret1 rfl rfl ⟨hap5.old (H0 := H) (fun hc => hO3'.fresh hc) (hk03.non_trans hk4), ?_⟩
            rw [List.append_assoc] at hO5
            exact hO5
        · exfalso; omega
end Go.Proofs.YtkdmcbacofafpaaDoor.X
