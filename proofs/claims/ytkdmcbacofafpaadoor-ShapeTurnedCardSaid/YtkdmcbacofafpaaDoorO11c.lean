/- Chapter 11's document: the cells of a whole ternary tree, and of a radix tree, of pairs. -/
import Derived.Test.YtkdmcbacofafpaaDoorO11b
namespace Go.Proofs.YtkdmcbacofafpaaDoor.X
open Go Go.Proofs
set_option linter.unusedVariables false
set_option linter.unusedSimpArgs false
set_option maxRecDepth 10000
set_option maxHeartbeats 4000000

theorem KSt.cut {B0 : Nat} {H : Heap} {v u : Value} {k : Bytes} {n : Nat} (h : KSt (fun z => z < B0) H v k) (hu : IsSl u n) (hc : CutOf u v 0 1) (hn : n ≤ k.length) : KSt (fun z => z < B0) H u (k.take n) := by
  have h1 := h.1.cut (a := 0) (b := n) hu hc (Nat.zero_le _) hn
  rw [List.drop_zero] at h1
  refine ⟨h1, fun hne => ?_⟩
  have hk : k ≠ [] := fun e => by rw [e] at hne; simp at hne
  have hp := List.length_pos_iff.2 hk
  have := (hc.at_ (by have := h.1.sl.cap.1; omega)).1
  rw [this]
  exact h.2 hk
theorem ownV_cons (n : Nat) (p : Pr) (l : List Pr) : ownV n (p :: l) = if p.1.length = n then some p.2 else none := rfl
theorem ownV_is {n : Nat} {l : List Pr} {p : Pr} (hp : l[0]? = some p) : (ownV n l).isSome = decide (p.1.length = n) := by
  cases l with
  | nil => cases hp
  | cons a r =>
    simp at hp
    subst hp
    rw [ownV_cons]
    by_cases h : a.1.length = n
    · rw [if_pos h, decide_eq_true h]; rfl
    · rw [if_neg h, decide_eq_false h]; rfl
theorem ownV_val {n : Nat} {l : List Pr} {v : Int} (ho : ownV n l = some v) : ∃ p, l[0]? = some p ∧ p.2 = v := by
  cases l with
  | nil => cases ho
  | cons a r =>
    rw [ownV_cons] at ho
    split at ho
    · injection ho with ho; exact ⟨a, rfl, ho⟩
    · cases ho
def emptyC (o : Option Int) : List Cel := match o with
  | some v => [{ kind := 3, count := 1, val := v }]
  | none => []
theorem ternOf_is (l : List Pr) : ternOf l = emptyC (ownV 0 l) ++ (ternT (wt 0 (offOwn 0 l)) (offOwn 0 l) 0).cells 0 := by
  unfold ternOf emptyC
  cases ownV 0 l <;> rfl
theorem ref11_TernOf {B0 : Nat} {l : List Pr} {vp : Value} {H : Heap} (hF : Few l) (hP : PIn B0 H vp l) (hB : B0 ≤ H.size) : Ret Tryd.prog 24 [vp, .int .i64 0] H (OfR B0 (ternOf l) H) := by
  have sP := hP.row.sl
  have cP := sP.cap
  have h40 := hF.len
  obtain ⟨o1, o2, o3⟩ := own_off hF.way
  have o2 : Long 0 (offOwn 0 l) := o2
  have o3 : List.Sublist (offOwn 0 l) l := o3
  rw [ternOf_is]
  refine ret_of Tryd.func24 rfl rfl rfl rfl ?_
  intro w0
  refine zrunc ?_ ?_
  refine cw_region ?_
  refine zrunc ?_ ?_
  refine cw_region ?_
  refine zrunc ?_ ?_
  refine cw_cut (fun e : Bool => [(0, vp), (1, .int .i64 0), (5, .slice none 0 0), (17, .bool e)]) (fun e H' => H = H' ∧ e = (ownV 0 l).isSome) ?_ ?_
  · refine zrun ?_ ?_
    refine x_split 9 rfl (fun h0 => ?_) (fun h0 => ?_) <;> (try simp at h0)
    · obtain ⟨p, hp⟩ : ∃ p, l[0]? = some p := ⟨_, List.getElem?_eq_getElem (by first | omega | exact List.length_pos_iff.2 h0)⟩
      have hpos : 0 < l.length := (List.getElem?_eq_some_iff.1 hp).1
      obtain ⟨k0, z0, _, z2⟩ := hP.at_ hp
      have sK := z2.1.sl
      have ho := ownV_is (n := 0) hp
      refine zrun ?_ ?_
      refine x_load rfl rfl (hpmt (z0)) rfl trivial ?_
      refine zrun ?_ ?_
      refine nw_meet _ (by repeat (first | exact True.intro | refine ⟨rfl, ?_⟩)) ⟨rfl, ?_⟩
      rw [ho]
      by_cases h : p.1.length = 0
      · rw [decide_eq_true h, h]; rfl
      · rw [decide_eq_false h]; exact beq_eq_false_iff_ne.2 (fun e => h (by omega))
    · have hl0 : l = [] := by first | exact h0 | exact List.length_eq_zero_iff.1 (by omega)
      subst hl0
      refine zrun ?_ ?_
      exact nw_meet false (by repeat (first | exact True.intro | refine ⟨rfl, ?_⟩)) ⟨rfl, rfl⟩
  rintro e _ ⟨rfl, rfl⟩
  refine zrunc ?_ ?_
  refine cw_cut (fun s : Value × Value => [(0, s.1), (1, .int .i64 0), (5, s.2)]) (fun s H' => Keep Non H H' ∧ PIn B0 H' s.1 (offOwn 0 l) ∧ CO B0 H.size H' s.2 (emptyC (ownV 0 l))) ?_ ?_
  · cases ho : ownV 0 l with
    | none =>
      have e2 : offOwn 0 l = l := by unfold offOwn; rw [ho]; rfl
      refine zrun ?_ ?_
      exact nw_meet (vp, .slice none 0 0) (by repeat (first | exact True.intro | refine ⟨rfl, ?_⟩)) ⟨Keep.refl _ _, by rw [e2]; exact hP, CO.nil _ _ _⟩
    | some v =>
      have e2 : offOwn 0 l = l.drop 1 := by unfold offOwn; rw [ho]; rfl
      obtain ⟨p, hp, hpv⟩ : ∃ p, l[0]? = some p ∧ p.2 = v := by
        exact ownV_val ho
      have hpos : 0 < l.length := (List.getElem?_eq_some_iff.1 hp).1
      obtain ⟨k0, _, z1, z2⟩ := hP.at_ hp
      rw [hpv] at z1
      refine zrun ?_ ?_
      refine x_load rfl rfl (hpmt (z1)) rfl trivial ?_
      refine zrun ?_ ?_
      refine x_build (cs := encC (({ kind := 3, count := 1, val := v } : Cel), .slice none 0 0, .slice none 0 0)) rfl rfl rfl (ocp_cons rfl (ocp_cons rfl (ocp_cons rfl ocp_nil))) rfl trivial ?_
      refine zrun ?_ ?_
      refine x_buildSliceS1 (by rfl) rfl rfl (by omega) (by rfl) rfl trivial ?_
      intro H1 hn1
      refine ⟨trivial, ?_⟩
      have hs1 := hn1.size
      have hC1 : CO B0 H.size H1 _ [({ kind := 3, count := 1, val := v } : Cel)] := CO.one hn1 ⟨rfl, ⟨Bs.nil _, fun h => absurd rfl h⟩, PsK.nil _ _, fun h => absurd rfl h⟩
      obtain ⟨q1, o1', a1⟩ := hC1.row
      obtain ⟨q0, o0, a0⟩ := (CO.nil B0 H.size H1).row
      refine zrun ?_ ?_
      refine x_append (by rfl) (by rfl) (by rfl) rfl rfl rfl o0 o1'.sl (by rw [rws_length encC_len, a1.len]) o1'.cels (al_oneC a1) (by simp only [List.length_singleton, List.length_nil]; omega) rfl trivial ?_
      intro v2 H2 hap2
      refine ⟨trivial, ?_⟩
      have hC2 : CO B0 H.size H2 v2 _ := CO.app a0 a1 (CO.nil B0 H.size H1).fresh (by omega) (by omega) hap2
      have hk2 : Keep Non H H2 := hap2.old (H0 := H) (Fresh.nil H) hn1.keep
      refine zrun ?_ ?_
      refine x_slice_l rfl rfl rfl sP (by omega) (by omega) rfl trivial ?_
      intro u hu hcu
      have P2 := (hP.keepN hk2).cut (a := 1) (b := l.length) hu hcu (by omega) (Nat.le_refl _)
      rw [List.take_length, ← e2] at P2
      refine zrun ?_ ?_
      exact nw_meet (u, v2) (by repeat (first | exact True.intro | refine ⟨rfl, ?_⟩)) ⟨hk2, P2, hC2⟩
  rintro ⟨u, v⟩ H1 ⟨hk1, hP1, hC1⟩
  dsimp only at hP1 hC1 ⊢
  have hs1 := hk1.size
  have hw := (wt_le (n := 0) (hF.sub o3).key).1
  have hfew := ternT_few (f := wt 0 (offOwn 0 l)) (w := []) (hF.sub o3) (hF.way.sub o3) o2
  have hfew : (ternT (wt 0 (offOwn 0 l)) (offOwn 0 l) 0).size ≤ 800 := hfew
  rw [← TT.cells_len _ 0] at hfew
  have hel : (emptyC (ownV 0 l)).length ≤ 1 := by unfold emptyC; cases ownV 0 l <;> simp
  refine zrun ?_ ?_
  refine x_call rfl rfl rfl trivial (ref11_tern (wt 0 (offOwn 0 l)) (w := []) (hF.sub o3) (hF.way.sub o3) o2 (Nat.le_refl _) (Nat.zero_le _) hP1 (by omega)) ?_
  rintro vt H2 ⟨hk2, hT2⟩
  refine ⟨trivial, ?_⟩
  have hT2 : CO B0 H1.size H2 vt ((ternT (wt 0 (offOwn 0 l)) (offOwn 0 l) 0).cells 0) := hT2
  have hs2 := hk2.size
  obtain ⟨q1, o1', a1⟩ := (hC1.keepN hk2).row
  obtain ⟨q2, o2', a2⟩ := hT2.row
  refine zrun ?_ ?_
  refine x_append (by rfl) (by rfl) (by rfl) rfl rfl rfl o1' o2'.sl (by rw [rws_length encC_len, a2.len]) o2'.cels (al_oneC a2) (by omega) rfl trivial ?_
  intro v3 H3 hap3
  refine ⟨trivial, ?_⟩
  have hC3 : CO B0 H.size H3 v3 _ := CO.app a1 a2 hC1.fresh (by omega) (by omega) hap3
  refine zrun ?_ ?_
  exact cw_ret1 rfl rfl ⟨hap3.old (H0 := H) (fun hc => hC1.fresh hc) (hk1.non_trans hk2), hC3⟩

/-! radix trees -/
theorem hpmg {Cs : Nat → Heap → Prop} {ri : RI} {i : Nat} {H : Heap} {c : Nat} {p : Heap → Prop} (h2 : ri.cls i = some c) (h : ∀ H', Cs c H' → p H') : ∀ H', hpm (.held Cs ri) i H H' → p H' := fun H' hM => h H' (hM c h2)
/-- loads of two classes: of what was there; of a row that is made on the way -/
def CsR (H0 : Heap) (b : Nat) (cs : List Value) : Nat → Heap → Prop
  | 0, h => Keep Non H0 h
  | _ + 1, h => Cels h b 0 cs
theorem share_cut {l : List Pr} {p0 pn : Pr} (hp0 : l[0]? = some p0) (hpn : l[l.length - 1]? = some pn) : shareK l = p0.1.take (common p0.1 pn.1) := by
  unfold shareK
  rw [firstK_get hp0, lastK_get hpn]
theorem eqN_eq {n : Nat} {b : UInt8} {l : List Pr} {j : Nat} {p : Pr} (hj : j < eqN n b l) (hp : l[j]? = some p) : byK n p = b := eqN_mem (List.mem_of_getElem? (i := j) (by rw [List.getElem?_take, if_pos hj]; exact hp))
end Go.Proofs.YtkdmcbacofafpaaDoor.X
