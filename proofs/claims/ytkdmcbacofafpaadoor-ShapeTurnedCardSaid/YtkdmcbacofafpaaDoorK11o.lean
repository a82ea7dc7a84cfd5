/- The document's trees of pairs, of any kind: how many cells, which, and what is read of them. No program in it. -/
import Derived.Test.YtkdmcbacofafpaaDoorK11b2
import Derived.Test.YtkdmcbacofafpaaDoorL11b
namespace Go.Proofs.YtkdmcbacofafpaaDoor.X
open Go
set_option linter.unusedVariables false
set_option linter.unusedSimpArgs false
set_option maxRecDepth 10000

/-- ways enough -/
theorem manyWays : ∃ f : Nat, f = 66000 := ⟨_, rfl⟩
noncomputable def ways : Nat := Classical.choose manyWays
theorem ways_is : ways = 66000 := Classical.choose_spec manyWays
noncomputable def burstC (l : List Pr) : List Cel := burstOf ways l 0
noncomputable def burstE (l : List Pr) : Nat := burstD ways l 0
noncomputable def ofC (tag : Int) (l : List Pr) : List Cel := if tag = 1 then critOf l else if tag = 2 then ternOf l else if tag = 3 then radixOf l.length l else burstC l
noncomputable def ofD (tag : Int) (l : List Pr) : Nat := if l = [] then 0 else if tag = 1 then (critT l.length l).deep else if tag = 2 then ternD l else if tag = 3 then radixD l.length l else burstE l
/-! how many cells -/
theorem ternT_size : ∀ (f : Nat) {w : Bytes} {l : List Pr}, Way w l → Long w.length l → (ternT f l w.length).size ≤ wt w.length l := by
  intro f
  induction f with
  | zero => intro w l _ _; exact Nat.zero_le _
  | succ f ih =>
    intro w l hW hL
    by_cases hne : l = []
    · subst hne; exact Nat.zero_le _
    · unfold ternT
      rw [if_neg hne]
      generalize hb : midB w.length l = b
      have sA := List.take_sublist (lowN w.length b l) l
      have sD := List.drop_sublist (lowN w.length b l) l
      have sM := (List.take_sublist (eqN w.length b (l.drop (lowN w.length b l))) (l.drop (lowN w.length b l))).trans sD
      have sR := (List.drop_sublist (eqN w.length b (l.drop (lowN w.length b l))) (l.drop (lowN w.length b l))).trans sD
      have hsplit : l = l.take (lowN w.length b l) ++ ((l.drop (lowN w.length b l)).take (eqN w.length b (l.drop (lowN w.length b l))) ++ (l.drop (lowN w.length b l)).drop (eqN w.length b (l.drop (lowN w.length b l)))) := by rw [List.take_append_drop, List.take_append_drop]
      have hM : ∀ q ∈ (l.drop (lowN w.length b l)).take (eqN w.length b (l.drop (lowN w.length b l))), byK w.length q = b := fun q hq => eqN_mem hq
      have hMne : (l.drop (lowN w.length b l)).take (eqN w.length b (l.drop (lowN w.length b l))) ≠ [] := by
        intro e
        have hpos : 0 < l.length := List.length_pos_iff.2 hne
        obtain ⟨x, hx⟩ : ∃ x, l[l.length / 2]? = some x := ⟨_, List.getElem?_eq_getElem (by omega)⟩
        have eb : byK w.length x = b := by rw [← hb]; unfold midB; rw [List.getD_eq_getElem?_getD, hx]; rfl
        have hij : lowN w.length b l ≤ l.length / 2 := by
          rcases Nat.lt_or_ge (l.length / 2) (lowN w.length b l) with h | h
          · exfalso
            have h1 : x ∈ l.take (lowN w.length b l) := List.mem_of_getElem? (i := l.length / 2) (by rw [List.getElem?_take, if_pos h]; exact hx)
            have := lowN_mem h1
            rw [eb] at this
            exact UInt8.lt_irrefl _ this
          · exact h
        obtain ⟨y, hy⟩ : ∃ y, l[lowN w.length b l]? = some y := ⟨_, List.getElem?_eq_getElem (by omega)⟩
        have hyb : byK w.length y = b := by
          have h1 : ¬ byK w.length y < b := lowN_end hy
          have h2 := hW.mono hL hij hy hx
          rw [eb] at h2
          rcases UInt8.lt_or_eq_of_le h2 with h | h
          · exact absurd h h1
          · exact h
        have hdr : l.drop (lowN w.length b l) = y :: l.drop (lowN w.length b l + 1) := by
          rw [List.drop_eq_getElem_cons (by omega)]
          have := List.getElem?_eq_getElem (l := l) (i := lowN w.length b l) (by omega)
          rw [hy] at this
          injection this with this
          rw [← this]
        have hp := eqN_pos (n := w.length) (p := y) (l := l.drop (lowN w.length b l + 1))
        rw [hyb, ← hdr] at hp
        have := congrArg List.length e
        rw [List.length_take, List.length_drop] at this
        simp at this
        omega
      generalize hA : l.take (lowN w.length b l) = A at *
      generalize hMm : (l.drop (lowN w.length b l)).take (eqN w.length b (l.drop (lowN w.length b l))) = M at *
      generalize hR : (l.drop (lowN w.length b l)).drop (eqN w.length b (l.drop (lowN w.length b l))) = R at *
      have hWM : Way (w ++ [b]) M := (hW.sub sM).down rfl (hL.sub sM) hM
      have hlen1 : (w ++ [b]).length = w.length + 1 := by simp
      obtain ⟨o1, o2, o3⟩ := own_off hWM
      rw [hlen1] at o1 o2 o3
      have hsum : wt w.length l = wt w.length A + (wt w.length M + wt w.length R) := by
        conv => lhs; rw [hsplit]
        rw [wt_app, wt_app]
      have a := ih (hW.sub sA) (hL.sub sA)
      have c := ih (hW.sub sR) (hL.sub sR)
      have m := ih (w := w ++ [b]) (hWM.sub o3) (by rw [hlen1]; exact o2)
      rw [hlen1] at m
      have h1 := wt_succ o2
      have h2 : 1 + wt (w.length + 1) (offOwn (w.length + 1) M) ≤ wt w.length M := by
        have hMp : 0 < M.length := List.length_pos_iff.2 hMne
        have e := congrArg (wt w.length) o1
        rw [wt_app] at e
        have e2 := congrArg List.length o1
        rw [List.length_append] at e2
        cases ho : ownV (w.length + 1) M with
        | some v =>
          rw [ho] at e
          have : wt w.length (TT.ownP (some v) (w ++ [b])) = 1 := by simp [TT.ownP, wt]
          omega
        | none =>
          rw [ho] at e e2
          have : (TT.ownP none (w ++ [b])).length = 0 := rfl
          omega
      show 1 + (_ + _ + _) ≤ _
      omega
theorem ternOf_size {l : List Pr} (hr : rises l = true) (hm : ∀ p ∈ l, p.1.length ≤ 65535) : (ternOf l).length ≤ 1 + wt 0 l := by
  have hW : Way [] l := ⟨hr, fun p _ => begins_nil _, hm⟩
  obtain ⟨o1, o2, o3⟩ := own_off hW
  have o2 : Long 0 (offOwn 0 l) := o2
  have o3 : List.Sublist (offOwn 0 l) l := o3
  have h := ternT_size (wt 0 (offOwn 0 l)) (w := []) (l := offOwn 0 l) (hW.sub o3) o2
  have h : (ternT (wt 0 (offOwn 0 l)) (offOwn 0 l) 0).size ≤ wt 0 (offOwn 0 l) := h
  have e := congrArg (wt 0) (show TT.ownP (ownV 0 l) [] ++ offOwn 0 l = l from o1)
  rw [wt_app] at e
  unfold ternOf
  rw [List.length_append, TT.cells_len]
  cases ownV 0 l with
  | none => show 0 + _ ≤ _; omega
  | some v => show 1 + _ ≤ _; omega
theorem flat_sum {of : List Pr → List Cel} {k : Nat} : ∀ (gs : List (List Pr)), (∀ g ∈ gs, (of g).length + 1 ≤ 2 * g.length) → (gs.flatMap of).length + gs.length ≤ 2 * gs.flatten.length := by
  intro gs
  induction gs with
  | nil => intro _; exact Nat.le_refl _
  | cons g gs ih =>
    intro h
    have h1 := h g (by simp)
    have h2 := ih (fun k hk => h k (List.mem_cons_of_mem _ hk))
    rw [List.flatMap_cons, List.flatten_cons, List.length_append, List.length_append, List.length_cons]
    omega
theorem radixOf_size : ∀ (f : Nat) {l : List Pr}, rises l = true → (∀ p ∈ l, p.1.length ≤ 65535) → l ≠ [] → l.length ≤ f → (radixOf f l).length + 1 ≤ 2 * l.length := by
  intro f
  induction f with
  | zero => intro l _ _ hne hl; exact absurd (List.length_eq_zero_iff.1 (by omega)) hne
  | succ f ih =>
    intro l hr hm hne hl
    by_cases h2 : 2 ≤ l.length
    · have hk := runsR_ok hr hm
      obtain ⟨k2, kl⟩ := runsR_two hr hm h2
      obtain ⟨o1, o2, o3⟩ := own_off (share_way hr hm)
      rw [radixOf_node h2, List.length_cons]
      have := flat_sum (of := radixOf f) (k := 0) (runsR l) (fun g hg => by
        obtain ⟨b, b1, b2, b3, b4⟩ := hk.one g hg
        exact ih b3.rise b3.may b2 (by have := kl g hg; omega))
      rw [hk.flat] at this
      have e := congrArg List.length o1
      rw [List.length_append] at e
      cases ho : ownV (shareK l).length l with
      | some v =>
        rw [ho] at e k2
        have : (TT.ownP (some v) (shareK l)).length = 1 := rfl
        simp at k2
        omega
      | none =>
        rw [ho] at e k2
        have : (TT.ownP none (shareK l)).length = 0 := rfl
        simp at k2
        omega
    · match l, hne, h2 with
      | [p], _, _ => exact Nat.le_refl _
      | p :: q :: r, _, h2 => exact absurd (by simp) h2
def wtB (n : Nat) (l : List Pr) : Nat := (l.map fun p => p.1.length + 1 - n).sum
theorem wtB_flat (n : Nat) (gs : List (List Pr)) : wtB n gs.flatten = (gs.map (wtB n)).sum := by
  induction gs with
  | nil => rfl
  | cons g gs ih =>
    rw [List.flatten_cons, List.map_cons, List.sum_cons, ← ih]
    unfold wtB
    rw [List.map_append, List.sum_append]
theorem wtB_len {w : Bytes} {l : List Pr} (hW : Way w l) : l.length ≤ wtB w.length l := by
  have : ∀ p ∈ l, w.length ≤ p.1.length := fun p hp => beg_le (hW.beg p hp)
  clear hW
  unfold wtB
  induction l with
  | nil => simp
  | cons p l ih =>
    rw [List.map_cons, List.sum_cons, List.length_cons]
    have h1 := this p (by simp)
    have h2 := ih (fun q hq => this q (List.mem_cons_of_mem _ hq))
    omega
theorem wtB_succ {n : Nat} {l : List Pr} (h : Long n l) : wtB (n + 1) l + l.length = wtB n l := by
  unfold wtB
  induction l with
  | nil => rfl
  | cons p l ih =>
    rw [List.map_cons, List.sum_cons, List.map_cons, List.sum_cons, List.length_cons]
    have h1 := h p (by simp)
    have h2 := ih (fun q hq => h q (List.mem_cons_of_mem _ hq))
    omega
theorem flat_sum2 {of : List Pr → List Cel} {wf : List Pr → Nat} : ∀ (gs : List (List Pr)), (∀ g ∈ gs, (of g).length ≤ wf g) → (gs.flatMap of).length ≤ (gs.map wf).sum := by
  intro gs
  induction gs with
  | nil => intro _; exact Nat.le_refl _
  | cons g gs ih =>
    intro h
    have h1 := h g (by simp)
    have h2 := ih (fun k hk => h k (List.mem_cons_of_mem _ hk))
    rw [List.flatMap_cons, List.length_append, List.map_cons, List.sum_cons]
    omega
theorem burstOf_size : ∀ (f : Nat) {l : List Pr} {w : Bytes}, Way w l → (burstOf f l w.length).length ≤ wtB w.length l := by
  intro f
  induction f with
  | zero => intro l w _; exact Nat.zero_le _
  | succ f ih =>
    intro l w hW
    by_cases hne : l = []
    · subst hne; exact Nat.zero_le _
    · have hlen := wtB_len hW
      have hpos := List.length_pos_iff.2 hne
      by_cases h8 : l.length ≤ 8
      · have e : burstOf (f + 1) l w.length = [shelfB l w.length] := by unfold burstOf; rw [if_neg hne, if_pos h8]
        rw [e]
        show 1 ≤ _
        omega
      · obtain ⟨o1, o2, o3⟩ := own_off hW
        have hk : RunsOk w (offOwn w.length l) (runsB l w.length) (-1) := runs_ok _ (Nat.le_refl _) (hW.sub o3) o2 (fun p _ => by omega)
        rw [burstOf_node hne h8, List.length_cons]
        have h1 := flat_sum2 (of := fun g => burstOf f g (w.length + 1)) (wf := wtB (w.length + 1)) (runsB l w.length) (fun g hg => by
          obtain ⟨b, b1, b2, b3, b4⟩ := hk.one g hg
          have := ih b3
          rw [show (w ++ [b]).length = w.length + 1 by simp] at this
          exact this)
        rw [← wtB_flat, hk.flat] at h1
        have h2 := wtB_succ o2
        have h3 : wtB w.length (offOwn w.length l) ≤ wtB w.length l := by
          have := congrArg (wtB w.length) o1
          unfold wtB at this ⊢
          rw [List.map_append, List.sum_append] at this
          omega
        have h4 : 1 ≤ (offOwn w.length l).length := by
          have := congrArg List.length o1
          rw [List.length_append] at this
          have : (TT.ownP (ownV w.length l) w).length ≤ 1 := by cases ownV w.length l <;> simp [TT.ownP]
          omega
        omega
theorem wt_le {n m : Nat} {l : List Pr} (h : ∀ p ∈ l, p.1.length ≤ m) : wt n l ≤ m * l.length ∧ wtB n l ≤ (m + 1) * l.length := by
  unfold wt wtB
  induction l with
  | nil => simp
  | cons p l ih =>
    have h1 := h p (by simp)
    obtain ⟨h2, h3⟩ := ih (fun q hq => h q (List.mem_cons_of_mem _ hq))
    rw [List.map_cons, List.sum_cons, List.map_cons, List.sum_cons, List.length_cons, Nat.mul_add, Nat.mul_add, Nat.mul_one, Nat.mul_one]
    omega
/-- pairs that a law makes trees of -/
structure Few (l : List Pr) : Prop where
  rise : rises l = true
  len : l.length ≤ 40
  key : ∀ p ∈ l, p.1.length ≤ 20
theorem Few.may {l : List Pr} (h : Few l) : ∀ p ∈ l, p.1.length ≤ 65535 := fun p hp => by have := h.key p hp; omega
theorem Few.way {l : List Pr} (h : Few l) : Way [] l := ⟨h.rise, fun p _ => begins_nil _, h.may⟩
theorem rdB_burstC {l : List Pr} (h : Few l) (hne : l ≠ []) : rdB ((burstC l).length + 1) (burstC l) 0 [] = some ⟨l, (burstC l).length, burstE l⟩ := by
  have hl := h.len
  unfold burstC burstE
  generalize hf : ways = f
  rw [ways_is] at hf
  have := readB_burstOf f (l := l) (w := []) (g := (burstOf f l 0).length + 1) (cs := burstOf f l 0) (i := 0) (rest := []) (by omega) hne (by omega) (fun p hp => by have := h.key p hp; simp; omega) h.way (by simp) (by omega)
  unfold rdB
  rw [this]
  simp only [if_true]
  show some (⟨l, 0 + (burstOf f l 0).length, ((burstD f l 0 : Nat) : Int).toNat⟩ : PT) = _
  rw [Nat.zero_add, Int.toNat_natCast]
theorem burstC_size {l : List Pr} (h : Few l) : (burstC l).length ≤ wtB 0 l := by
  unfold burstC
  generalize ways = f
  exact burstOf_size f (w := []) h.way
theorem burstE_way {l : List Pr} {M : Nat} (hne : l ≠ []) (hw : Way [] l) (hM : ∀ p ∈ l, p.1.length ≤ M) : burstE l ≤ M + 1 := by
  have h := fun f : Nat => burstD_way f (w := []) hne hw hM
  simp only [List.length_nil, Nat.add_zero] at h
  exact h ways
theorem burstC_map {g : Pr → Pr} (hg : ∀ p, (g p).1 = p.1) (l : List Pr) : (burstC (l.map g)).length = (burstC l).length ∧ burstE (l.map g) = burstE l := burstOf_map hg _ l 0
theorem burstC_nil : burstC [] = [] := by
  unfold burstC
  generalize ways = f
  cases f <;> rfl
theorem ofC_nil (tag : Int) : ofC tag [] = [] := by
  unfold ofC
  rw [burstC_nil]
  repeat' split
  all_goals rfl
theorem ofC_len {tag : Int} {l : List Pr} (h : Few l) : (ofC tag l).length ≤ 900 := by
  by_cases hne : l = []
  · subst hne; rw [ofC_nil]; exact Nat.zero_le _
  · have hw := wt_le (n := 0) h.key
    have hl := h.len
    unfold ofC
    split
    · have := critOf_size h.rise hne h.may; omega
    · split
      · have := ternOf_size h.rise h.may; omega
      · split
        · have := radixOf_size l.length h.rise h.may hne (Nat.le_refl _); omega
        · have := burstC_size h
          omega
theorem rdIn_ofC {tag : Int} {l : List Pr} (h : Few l) (hne : l ≠ []) (h1 : 1 ≤ tag) (h4 : tag ≤ 4) : rdIn tag (ofC tag l) = some ⟨l, (ofC tag l).length, ofD tag l⟩ := by
  have hl := h.len
  unfold rdIn ofC ofD
  rw [if_neg hne]
  split
  · exact rdC_critOf h.rise hne h.may
  · split
    · exact rdTs_ternOf h.rise hne h.may
    · split
      · have := rdR_radixOf l.length (l := l) (way := []) (g := (radixOf l.length l).length + 1) (cs := radixOf l.length l) (i := 0) (rest := []) hne (Nat.le_refl _) (by omega) h.way (by simp) (by omega)
        rw [this, Nat.zero_add]
      · exact rdB_burstC h hne
theorem ofC_ne {tag : Int} {l : List Pr} (h : Few l) (hne : l ≠ []) (h1 : 1 ≤ tag) (h4 : tag ≤ 4) : ofC tag l ≠ [] := fun e => by
  have := rdIn_ofC h hne h1 h4
  have hg : rdIn tag (ofC tag l) = none := by
    rw [e]
    unfold rdIn
    split
    · exact rdC_none rfl
    · split
      · rfl
      · split
        · exact rdR_none rfl
        · rfl
  rw [hg] at this
  cases this
theorem rdAll_ofC {tag : Int} {l : List Pr} (h : Few l) (h1 : 1 ≤ tag) (h4 : tag ≤ 4) : rdAll tag (ofC tag l) = some ⟨l, (ofC tag l).length, ofD tag l⟩ := by
  by_cases hne : l = []
  · subst hne
    rw [ofC_nil]
    unfold rdAll ofD
    rw [if_neg (by omega), if_pos rfl, if_pos rfl]
    rfl
  · rw [rdAll_in (by omega) (ofC_ne h hne h1 h4), rdIn_ofC h hne h1 h4]
    show (if _ then _ else _) = _
    rw [if_pos rfl]
/-! which cells -/
structure CelG (c : Cel) : Prop where
  kind : 1 ≤ c.kind ∧ c.kind ≤ 11
  key : c.key.length ≤ 20
  few : c.pairs.length ≤ 8
  pair : ∀ p ∈ c.pairs, p.1.length ≤ 20
  at_ : 0 ≤ c.at_ ∧ c.at_ ≤ 1000
  kids : 0 ≤ c.kids ∧ c.kids ≤ 1000
  count : 0 ≤ c.count ∧ c.count ≤ 1000
  val : c.full = false → c.kind ≠ 1 → c.kind ≠ 3 → c.kind ≠ 5 → c.val = 0
theorem CelG.small {c : Cel} (h : CelG c) : SmallOne c := ⟨by have := h.key; omega, by have := h.few; omega, fun p hp => by have := h.pair p hp; omega⟩
theorem CelG.num {c : Cel} (h : CelG c) : NumC c := ⟨by have := h.kind; omega, by have := h.at_; omega, by have := h.kids; omega⟩
theorem critT_g : ∀ (f : Nat) {l : List Pr}, rises l = true → l ≠ [] → l.length ≤ f → l.length ≤ 40 → (∀ p ∈ l, p.1.length ≤ 20) → ∀ c ∈ (critT f l).cells, CelG c := by
  intro f
  induction f with
  | zero => intro l _ hne hl; exact absurd (List.length_eq_zero_iff.1 (by omega)) hne
  | succ f ih =>
    intro l hr hne hl h40 hm
    by_cases h2 : 2 ≤ l.length
    · obtain ⟨d, k, h⟩ := cutC hr h2
      have hp := h.pos; have hlt := h.lt
      have la : (l.take k).length = k := by rw [List.length_take]; omega
      have lb : (l.drop k).length = l.length - k := List.length_drop
      have na : l.take k ≠ [] := fun e => by rw [e] at la; simp at la; omega
      have nb : l.drop k ≠ [] := fun e => by rw [e] at lb; simp at lb; omega
      obtain ⟨pp, _⟩ := critT_ok (f + 1) hr hne hl (fun p hp => by have := hm p hp; omega)
      rw [critT_node h] at pp ⊢
      intro c hc
      rcases List.mem_cons.1 hc with rfl | hc
      · have hd : d ≤ 180 := by
          obtain ⟨p0, hp0⟩ : ∃ p, l[0]? = some p := ⟨_, List.getElem?_eq_getElem (by omega)⟩
          obtain ⟨pn, hpn⟩ : ∃ p, l[l.length - 1]? = some p := ⟨_, List.getElem?_eq_getElem (by omega)⟩
          have hlt' := rises_lt hr (by omega : 0 < l.length - 1) hp0 hpn
          have hne' : p0.1 ≠ pn.1 := fun e => by rw [e, cmp_self] at hlt'; cases hlt'
          obtain ⟨e, he, _, _, hmx, _⟩ := differ_spec hne'
          have h1 := h.diff
          rw [firstK_get hp0, lastK_get hpn, he] at h1
          have h2 := hm p0 (List.mem_of_getElem? hp0)
          have h3 := hm pn (List.mem_of_getElem? hpn)
          omega
        have pp : (critT f (l.take k)).pairs ++ (critT f (l.drop k)).pairs = l := pp
        refine ⟨⟨by show (1 : Int) ≤ 2; omega, by show (2 : Int) ≤ 11; omega⟩, Nat.zero_le _, Nat.zero_le _, (fun p hp => by cases hp), ⟨Int.natCast_nonneg _, by show (d : Int) ≤ 1000; omega⟩, ⟨by show (0 : Int) ≤ 2; omega, by show (2 : Int) ≤ 1000; omega⟩, ⟨Int.natCast_nonneg _, ?_⟩, fun _ _ _ _ => rfl⟩
        show (((critT f (l.take k)).pairs ++ (critT f (l.drop k)).pairs).length : Int) ≤ 1000
        rw [pp]
        omega
      · rcases List.mem_append.1 hc with hc | hc
        · exact ih (rises_take hr k) na (by omega) (by omega) (fun p hp => hm p (List.mem_of_mem_take hp)) c hc
        · exact ih (rises_drop hr k) nb (by omega) (by omega) (fun p hp => hm p (List.mem_of_mem_drop hp)) c hc
    · match l, hne, h2 with
      | [p], _, _ =>
        intro c hc
        rw [List.mem_singleton.1 (show c ∈ [_] from hc)]
        exact ⟨⟨by show (1 : Int) ≤ 1; omega, by show (1 : Int) ≤ 11; omega⟩, hm p (by simp), Nat.zero_le _, (fun p hp => by cases hp), ⟨by show (0 : Int) ≤ 0; omega, by show (0 : Int) ≤ 1000; omega⟩, ⟨by show (0 : Int) ≤ 0; omega, by show (0 : Int) ≤ 1000; omega⟩, ⟨by show (0 : Int) ≤ 1; omega, by show (1 : Int) ≤ 1000; omega⟩, fun _ h => absurd rfl h⟩
      | p :: q :: r, _, h2 => exact absurd (by simp) h2
theorem TT.cells_g : ∀ (t : TT) (n : Nat), t.count ≤ 1000 → n + t.size ≤ 1000 → ∀ c ∈ t.cells n, CelG c := by
  intro t
  induction t with
  | nil => intro n _ _ c hc; cases hc
  | node b own lo mid hi i1 i2 i3 =>
    intro n hcn hsz c hc
    have hcn : lo.count + (if own.isSome then 1 else 0) + mid.count + hi.count ≤ 1000 := hcn
    have hsz : n + (1 + (lo.size + mid.size + hi.size)) ≤ 1000 := hsz
    rcases List.mem_cons.1 hc with rfl | hc
    · have a := TT.isT_le lo; have b' := TT.isT_le mid; have d := TT.isT_le hi
      refine ⟨⟨by show (1 : Int) ≤ 4; omega, by show (4 : Int) ≤ 11; omega⟩, Nat.zero_le _, Nat.zero_le _, (fun p hp => by cases hp), ⟨Int.natCast_nonneg _, by show (n : Int) ≤ 1000; omega⟩, ⟨Int.natCast_nonneg _, by show ((lo.isT + 2 * mid.isT + 4 * hi.isT : Nat) : Int) ≤ 1000; omega⟩, ⟨Int.natCast_nonneg _, by show ((lo.count + (if own.isSome then 1 else 0) + mid.count + hi.count : Nat) : Int) ≤ 1000; omega⟩, fun h _ _ _ => ?_⟩
      cases own with
      | some v => cases h
      | none => rfl
    · rcases List.mem_append.1 hc with hc | hc
      · rcases List.mem_append.1 hc with hc | hc
        · exact i1 n (by omega) (by omega) c hc
        · exact i2 (n + 1) (by omega) (by omega) c hc
      · exact i3 n (by omega) (by omega) c hc
theorem ternOf_g {l : List Pr} (h : Few l) : ∀ c ∈ ternOf l, CelG c := by
  obtain ⟨o1, o2, o3⟩ := own_off h.way
  have o2 : Long 0 (offOwn 0 l) := o2
  have o3 : List.Sublist (offOwn 0 l) l := o3
  obtain ⟨t1, _, _⟩ := ternT_ok (wt 0 (offOwn 0 l)) (w := []) (l := offOwn 0 l) (lo := -1) (hi := 256) (h.way.sub o3) o2 (fun q hq => by
    have := (byK ([] : Bytes).length q).toNat_lt
    omega) (Nat.le_refl _)
  have t1 : (ternT (wt 0 (offOwn 0 l)) (offOwn 0 l) 0).pairs [] = offOwn 0 l := t1
  have hs := ternOf_size h.rise h.may
  have hw := (wt_le (n := 0) h.key).1
  have hl := h.len
  intro c hc
  unfold ternOf at hc hs
  rw [List.length_append, TT.cells_len] at hs
  rcases List.mem_append.1 hc with hc | hc
  · cases ho : ownV 0 l with
    | none => rw [ho] at hc; cases hc
    | some v =>
      rw [ho] at hc
      rw [List.mem_singleton.1 (show c ∈ [_] from hc)]
      exact ⟨⟨by show (1 : Int) ≤ 3; omega, by show (3 : Int) ≤ 11; omega⟩, Nat.zero_le _, Nat.zero_le _, (fun p hp => by cases hp), ⟨by show (0 : Int) ≤ 0; omega, by show (0 : Int) ≤ 1000; omega⟩, ⟨by show (0 : Int) ≤ 0; omega, by show (0 : Int) ≤ 1000; omega⟩, ⟨by show (0 : Int) ≤ 1; omega, by show (1 : Int) ≤ 1000; omega⟩, fun _ _ h => absurd rfl h⟩
  · refine TT.cells_g _ 0 ?_ ?_ c hc
    · rw [TT.count_pairs _ [], t1]; have := o3.length_le; omega
    · omega
theorem radixOf_g : ∀ (f : Nat) {l : List Pr}, rises l = true → l.length ≤ 40 → (∀ p ∈ l, p.1.length ≤ 20) → ∀ c ∈ radixOf f l, CelG c := by
  intro f
  induction f with
  | zero => intro l _ _ _ c hc; cases hc
  | succ f ih =>
    intro l hr h40 hm c hc
    have hmay : ∀ p ∈ l, p.1.length ≤ 65535 := fun p hp => by have := hm p hp; omega
    by_cases h2 : 2 ≤ l.length
    · have hk := runsR_ok hr hmay
      obtain ⟨o1, o2, o3⟩ := own_off (share_way hr hmay)
      have hne : l ≠ [] := fun e => by rw [e] at h2; simp at h2
      rw [radixOf_node h2] at hc
      have hrl : (runsR l).length ≤ 40 := by
        have h1 := flat_le (gs := runsR l) (fun g hg => by obtain ⟨b, _, h, _⟩ := hk.one g hg; exact h)
        rw [hk.flat] at h1
        have := o3.length_le
        omega
      have hsk : (shareK l).length ≤ 20 := by
        obtain ⟨p, hp⟩ := List.exists_mem_of_ne_nil l hne
        have h1 := beg_le ((share_way hr hmay).beg p hp)
        have h3 := hm p hp
        omega
      have hrk : 1 ≤ radKind (runsR l).length ∧ radKind (runsR l).length ≤ 11 := by unfold radKind; repeat' split <;> omega
      rcases List.mem_cons.1 hc with rfl | hc
      · refine ⟨hrk, hsk, Nat.zero_le _, (fun p hp => by cases hp), ⟨by show (0 : Int) ≤ 0; omega, by show (0 : Int) ≤ 1000; omega⟩, ⟨Int.natCast_nonneg _, by show ((runsR l).length : Int) ≤ 1000; omega⟩, ⟨Int.natCast_nonneg _, by show (l.length : Int) ≤ 1000; omega⟩, fun h _ _ _ => ?_⟩
        have h : (ownV (shareK l).length l).isSome = false := h
        show (ownV (shareK l).length l).getD 0 = 0
        cases ho : ownV (shareK l).length l with
        | none => rfl
        | some v => rw [ho] at h; cases h
      · obtain ⟨g, hg, hc⟩ := List.mem_flatMap.1 hc
        obtain ⟨b, b1, b2, b3, b4⟩ := hk.one g hg
        have hsub : ∀ p ∈ g, p ∈ l := fun p hp => o3.subset (by rw [← hk.flat]; exact List.mem_flatten.2 ⟨g, hg, hp⟩)
        exact ih b3.rise (by have := o3.length_le; omega) (fun p hp => hm p (hsub p hp)) c hc
    · match l, h2 with
      | [], _ => cases hc
      | [p], _ =>
        rw [List.mem_singleton.1 (show c ∈ [_] from hc)]
        exact ⟨⟨by show (1 : Int) ≤ 5; omega, by show (5 : Int) ≤ 11; omega⟩, hm p (by simp), Nat.zero_le _, (fun p hp => by cases hp), ⟨by show (0 : Int) ≤ 0; omega, by show (0 : Int) ≤ 1000; omega⟩, ⟨by show (0 : Int) ≤ 0; omega, by show (0 : Int) ≤ 1000; omega⟩, ⟨by show (0 : Int) ≤ 1; omega, by show (1 : Int) ≤ 1000; omega⟩, fun _ _ _ h => absurd rfl h⟩
      | p :: q :: r, h2 => exact absurd (by simp) h2
theorem burstOf_g : ∀ (f : Nat) {l : List Pr} {w : Bytes}, Way w l → l.length ≤ 40 → (∀ p ∈ l, p.1.length ≤ 20) → ∀ c ∈ burstOf f l w.length, CelG c := by
  intro f
  induction f with
  | zero => intro l w _ _ _ c hc; cases hc
  | succ f ih =>
    intro l w hW h40 hm c hc
    by_cases hne : l = []
    · subst hne; cases hc
    · have hwl : w.length ≤ 20 := by
        obtain ⟨p, hp⟩ := List.exists_mem_of_ne_nil l hne
        have h1 := beg_le (hW.beg p hp)
        have h3 := hm p hp
        omega
      have hft := first_take hW hne
      by_cases h8 : l.length ≤ 8
      · have e : burstOf (f + 1) l w.length = [shelfB l w.length] := by unfold burstOf; rw [if_neg hne, if_pos h8]
        rw [e] at hc
        rw [List.mem_singleton.1 hc]
        exact ⟨⟨by show (1 : Int) ≤ 11; omega, by show (11 : Int) ≤ 11; omega⟩, by show ((firstK l).take w.length).length ≤ 20; rw [hft]; exact hwl, h8, hm, ⟨by show (0 : Int) ≤ 0; omega, by show (0 : Int) ≤ 1000; omega⟩, ⟨Int.natCast_nonneg _, by show (l.length : Int) ≤ 1000; omega⟩, ⟨Int.natCast_nonneg _, by show (l.length : Int) ≤ 1000; omega⟩, fun _ _ _ _ => rfl⟩
      · obtain ⟨o1, o2, o3⟩ := own_off hW
        have hk : RunsOk w (offOwn w.length l) (runsB l w.length) (-1) := runs_ok _ (Nat.le_refl _) (hW.sub o3) o2 (fun p _ => by omega)
        rw [burstOf_node hne h8] at hc
        have hrl : (runsB l w.length).length ≤ 40 := by
          have h1 := flat_le (gs := runsB l w.length) (fun g hg => by obtain ⟨b, _, h, _⟩ := hk.one g hg; exact h)
          rw [hk.flat] at h1
          have := o3.length_le
          omega
        rcases List.mem_cons.1 hc with rfl | hc
        · refine ⟨⟨by show (1 : Int) ≤ 10; omega, by show (10 : Int) ≤ 11; omega⟩, by show ((firstK l).take w.length).length ≤ 20; rw [hft]; exact hwl, Nat.zero_le _, (fun p hp => by cases hp), ⟨by show (0 : Int) ≤ 0; omega, by show (0 : Int) ≤ 1000; omega⟩, ⟨Int.natCast_nonneg _, by show ((runsB l w.length).length : Int) ≤ 1000; omega⟩, ⟨Int.natCast_nonneg _, by show (l.length : Int) ≤ 1000; omega⟩, fun h _ _ _ => ?_⟩
          have h : (ownV w.length l).isSome = false := h
          show (ownV w.length l).getD 0 = 0
          cases ho : ownV w.length l with
          | none => rfl
          | some v => rw [ho] at h; cases h
        · obtain ⟨g, hg, hc⟩ := List.mem_flatMap.1 hc
          obtain ⟨b, b1, b2, b3, b4⟩ := hk.one g hg
          have hsub : ∀ p ∈ g, p ∈ l := fun p hp => o3.subset (by rw [← hk.flat]; exact List.mem_flatten.2 ⟨g, hg, hp⟩)
          refine ih b3 (by have := o3.length_le; omega) (fun p hp => hm p (hsub p hp)) c ?_
          rw [show (w ++ [b]).length = w.length + 1 by simp]
          exact hc
theorem burstC_g {l : List Pr} (hw : Way [] l) (hl : l.length ≤ 40) (hk : ∀ p ∈ l, p.1.length ≤ 20) : ∀ c ∈ burstC l, CelG c := by
  unfold burstC
  generalize ways = f
  exact burstOf_g f (w := []) hw hl hk
theorem ofC_g {tag : Int} {l : List Pr} (h : Few l) : ∀ c ∈ ofC tag l, CelG c := by
  by_cases hne : l = []
  · subst hne; rw [ofC_nil]; intro c hc; cases hc
  · unfold ofC
    split
    · intro c hc
      unfold critOf at hc
      rw [if_neg hne] at hc
      exact critT_g _ h.rise hne (Nat.le_refl _) h.len h.key c hc
    · split
      · exact ternOf_g h
      · split
        · exact radixOf_g _ h.rise h.len h.key
        · exact burstC_g h.way h.len h.key
/-! of which kind of tree they are -/
def firstKind (tag k : Int) : Prop := (tag = 1 ∧ (k = 1 ∨ k = 2)) ∨ (tag = 2 ∧ (k = 3 ∨ k = 4)) ∨ (tag = 3 ∧ 5 ≤ k ∧ k ≤ 9) ∨ (tag = 4 ∧ (k = 10 ∨ k = 11))
theorem rdIn_kind {tag : Int} {l : List Cel} {x : PT} (h1 : 1 ≤ tag) (h4 : tag ≤ 4) (h : rdIn tag l = some x) : ∃ c, l[0]? = some c ∧ firstKind tag c.kind := by
  unfold firstKind
  unfold rdIn at h
  split at h
  · rename_i ht
    cases hc : l[0]? with
    | none => rw [rdC_none hc] at h; cases h
    | some c =>
      rw [rdC_some hc] at h
      refine ⟨c, rfl, ?_⟩
      split at h
      · rename_i hl; exact .inl ⟨ht, .inl hl.kind⟩
      · split at h
        · rename_i hl; exact .inl ⟨ht, .inr hl.kind⟩
        · cases h
  · split at h
    · rename_i ht
      unfold rdTs at h
      cases hc : l[0]? with
      | none => rw [hc] at h; cases h
      | some c =>
        rw [hc] at h
        refine ⟨c, rfl, ?_⟩
        simp only at h
        split at h
        · rename_i h3; exact .inr (.inl ⟨ht, .inl h3⟩)
        · rw [rdT_some hc] at h
          split at h
          · rename_i hT; exact .inr (.inl ⟨ht, .inr hT.kind⟩)
          · cases h
    · split at h
      · rename_i ht
        cases hc : l[0]? with
        | none => rw [rdR_none hc] at h; cases h
        | some c =>
          rw [rdR_some hc] at h
          refine ⟨c, rfl, ?_⟩
          split at h
          · split at h
            · rename_i hl; have := hl.kind; exact .inr (.inr (.inl ⟨ht, by omega, by omega⟩))
            · split at h
              · rename_i hn
                have := hn.band
                unfold bandC at this
                exact .inr (.inr (.inl ⟨ht, by omega, by omega⟩))
              · cases h
          · cases h
      · unfold rdB at h
        split at h
        · rename_i ho
          unfold readB at ho
          cases hc : l[0]? with
          | none => rw [hc] at ho; cases ho
          | some c =>
            rw [hc] at ho
            refine ⟨c, rfl, ?_⟩
            simp only at ho
            split at ho
            · split at ho
              · rename_i hk; exact .inr (.inr (.inr ⟨by omega, .inr hk⟩))
              · split at ho
                · rename_i hN; exact .inr (.inr (.inr ⟨by omega, .inl hN.1⟩))
                · cases ho
            · cases ho
        · cases h
theorem rdAll_other {tag other : Int} {l : List Pr} (h : Few l) (h1 : 1 ≤ tag) (h4 : tag ≤ 4) (o1 : 1 ≤ other) (o4 : other ≤ 4) (hn : other ≠ tag) (hne : l ≠ []) : rdAll other (ofC tag l) = none := by
  rw [rdAll_in (by omega) (ofC_ne h hne h1 h4)]
  cases hx : rdIn other (ofC tag l) with
  | none => rfl
  | some x =>
    exfalso
    obtain ⟨c, hc, hk⟩ := rdIn_kind o1 o4 hx
    obtain ⟨c', hc', hk'⟩ := rdIn_kind h1 h4 (rdIn_ofC h hne h1 h4)
    rw [hc] at hc'
    injection hc' with hc'
    subst hc'
    unfold firstKind at hk hk'
    omega
theorem ofD_le {tag : Int} {l : List Pr} (h : Few l) (h1 : 1 ≤ tag) (h4 : tag ≤ 4) : ofD tag l ≤ (ofC tag l).length ∧ (ofD tag l = 0 ↔ l = []) := by
  by_cases hne : l = []
  · subst hne
    exact ⟨by unfold ofD; rw [if_pos rfl]; exact Nat.zero_le _, ⟨fun _ => rfl, fun _ => by unfold ofD; rw [if_pos rfl]⟩⟩
  · have hok : CelsOk (ofC tag l) := CelsOk.of (by have := ofC_len (tag := tag) h; omega) (fun c hc => (ofC_g h c hc).small) (fun c hc => (ofC_g h c hc).num)
    have hg := rdIn_good hok (rdIn_ofC h hne h1 h4)
    have h2 : ofD tag l ≤ (ofC tag l).length := hg.2.1
    have h3 : 1 ≤ ofD tag l := hg.2.2.2
    exact ⟨h2, ⟨fun e => by omega, fun e => absurd e hne⟩⟩
theorem ofD_long {tag : Int} {l : List Pr} {M : Nat} (h : Few l) (ht : tag = 3 ∨ tag = 4) (hM : ∀ p ∈ l, p.1.length ≤ M) : ofD tag l ≤ M + 2 := by
  unfold ofD
  split
  · omega
  · rename_i hne
    rcases ht with rfl | rfl
    · have := radixD_le l.length hne (Nat.le_refl _) h.way hM
      simp at this ⊢
      omega
    · have := burstE_way hne h.way hM
      simp
      omega
theorem ofC_map {g : Pr → Pr} (hg : ∀ p, (g p).1 = p.1) (tag : Int) (l : List Pr) : (ofC tag (l.map g)).length = (ofC tag l).length ∧ ofD tag (l.map g) = ofD tag l := by
  unfold ofC ofD
  have e : (l.map g = []) ↔ l = [] := by simp
  rw [List.length_map]
  have h1 := critOf_map hg l
  have h2 := (critT_map hg l.length l).2
  have h3 := ternOf_map hg l
  have h4 := radixOf_map hg l.length l
  have h5 := burstC_map hg l
  by_cases hne : l = []
  · subst hne
    rw [List.map_nil]
    exact ⟨rfl, rfl⟩
  · rw [if_neg hne, if_neg (fun x => hne (e.1 x))]
    repeat' split
    all_goals first | exact ⟨h1, h2⟩ | exact h3 | exact h4 | exact h5
end Go.Proofs.YtkdmcbacofafpaaDoor.X
