/- Radix trees of pairs that rise: their cells, and what is read of these. No program in it. -/
import Derived.Test.YtkdmcbacofafpaaDoorK11t
namespace Go.Proofs.YtkdmcbacofafpaaDoor.X
open Go
set_option linter.unusedVariables false
set_option linter.unusedSimpArgs false
set_option maxRecDepth 10000

theorem beg_between {a b c w : Bytes} (hab : cmpB a b ≤ 0) (hbc : cmpB b c ≤ 0) (ha : begins a w = true) (hc : begins c w = true) : begins b w = true := by
  rw [← behind_between] at ha hc ⊢
  rw [Bool.and_eq_true, decide_eq_true_eq] at ha hc ⊢
  refine ⟨?_, ?_⟩
  · have h1 := cmp_anti a w
    have h2 := cmp_trans (a := w) (b := a) (c := b) (by omega) hab
    have h3 := cmp_anti w b
    omega
  · cases hb : behind w with
    | none => rfl
    | some z =>
      rw [hb] at hc
      have hc2 := of_decide_eq_true hc.2
      refine decide_eq_true ?_
      rcases cmp_eq3 b z with h | h | h
      · omega
      · have e := cmp_zero.1 h
        subst e
        have := cmp_anti b c
        omega
      · have h1 := cmp_anti b z
        have h2 := cmp_trans (a := z) (b := b) (c := c) (by omega) hbc
        have h3 := cmp_anti z c
        omega
/-- what the first key and the last one share -/
def shareK (l : List Pr) : Bytes := (firstK l).take (common (firstK l) (lastK l))
theorem firstK_cons (p : Pr) (l : List Pr) : firstK (p :: l) = p.1 := rfl
theorem lastK_get {l : List Pr} {p : Pr} (h : l[l.length - 1]? = some p) : lastK l = p.1 := by
  unfold lastK; rw [List.getLastD_eq_getLast?, List.getLast?_eq_getElem?, h]; rfl
theorem firstK_get {l : List Pr} {p : Pr} (h : l[0]? = some p) : firstK l = p.1 := by
  unfold firstK; rw [List.headD_eq_head?_getD, List.head?_eq_getElem?, h]; rfl
theorem shareK_len (l : List Pr) : (shareK l).length = common (firstK l) (lastK l) := by
  unfold shareK
  rw [List.length_take]
  have := (common_le (firstK l) (lastK l)).1
  omega
theorem share_way {l : List Pr} (hr : rises l = true) (hm : ∀ p ∈ l, p.1.length ≤ 65535) : Way (shareK l) l := by
  refine ⟨hr, fun p hp => ?_, hm⟩
  obtain ⟨j, hj⟩ := List.mem_iff_getElem?.1 hp
  have hjl := (List.getElem?_eq_some_iff.1 hj).1
  obtain ⟨p0, hp0⟩ : ∃ p, l[0]? = some p := ⟨_, List.getElem?_eq_getElem (by omega)⟩
  obtain ⟨pn, hpn⟩ : ∃ p, l[l.length - 1]? = some p := ⟨_, List.getElem?_eq_getElem (by omega)⟩
  have ef := firstK_get hp0
  have el := lastK_get hpn
  have b0 : begins p0.1 (shareK l) = true := by
    rw [begins_iff]
    unfold shareK
    rw [ef]
    exact ⟨p0.1.drop (common p0.1 (lastK l)), (List.take_append_drop _ _).symm⟩
  have bn : begins pn.1 (shareK l) = true := by
    rw [begins_iff]
    refine ⟨pn.1.drop (common p0.1 pn.1), ?_⟩
    have : shareK l = pn.1.take (common p0.1 pn.1) := by
      unfold shareK
      rw [ef, el]
      refine List.ext_getElem? fun i => ?_
      rw [List.getElem?_take, List.getElem?_take]
      split
      · rename_i h; exact common_same h
      · rfl
    rw [this, List.take_append_drop]
  refine beg_between (a := p0.1) (c := pn.1) ?_ ?_ b0 bn
  · by_cases h : j = 0
    · subst h; rw [hp0] at hj; injection hj with hj; rw [hj, cmp_self]; omega
    · have := rises_lt hr (by omega : 0 < j) hp0 hj; omega
  · by_cases h : j = l.length - 1
    · subst h; rw [hpn] at hj; injection hj with hj; rw [hj, cmp_self]; omega
    · have := rises_lt hr (by omega : j < l.length - 1) hj hpn; omega
/-- what all begin with, what is shared begins with -/
theorem share_beg {w : Bytes} {l : List Pr} (h : Way w l) (hne : l ≠ []) : begins (shareK l) w = true := by
  have hpos := List.length_pos_iff.2 hne
  obtain ⟨p0, hp0⟩ : ∃ p, l[0]? = some p := ⟨_, List.getElem?_eq_getElem (by omega)⟩
  obtain ⟨pn, hpn⟩ : ∃ p, l[l.length - 1]? = some p := ⟨_, List.getElem?_eq_getElem (by omega)⟩
  obtain ⟨a, ha⟩ := begins_iff.1 (h.beg p0 (List.mem_of_getElem? hp0))
  obtain ⟨b, hb⟩ := begins_iff.1 (h.beg pn (List.mem_of_getElem? hpn))
  unfold shareK
  rw [firstK_get hp0, lastK_get hpn, ha, hb, common_way, List.take_append]
  exact begins_iff.2 ⟨a.take (common a b), by rw [List.take_of_length_le (by omega), Nat.add_sub_cancel_left]⟩
/-- of two keys or more, the first one and the last one part behind what is shared -/
theorem share_parts {l : List Pr} (hr : rises l = true) (h2 : 2 ≤ l.length) (hL : Long (shareK l).length l) {p0 pn : Pr} (hp0 : l[0]? = some p0) (hpn : l[l.length - 1]? = some pn) : byK (shareK l).length p0 ≠ byK (shareK l).length pn := by
  have l0 := hL p0 (List.mem_of_getElem? hp0)
  have ln := hL pn (List.mem_of_getElem? hpn)
  have e := shareK_len l
  rw [firstK_get hp0, lastK_get hpn] at e
  rw [e] at l0 ln ⊢
  have := common_parts (List.getElem?_eq_getElem l0) (List.getElem?_eq_getElem ln)
  unfold byK
  rw [List.getD_eq_getElem?_getD, List.getD_eq_getElem?_getD, List.getElem?_eq_getElem l0, List.getElem?_eq_getElem ln]
  exact this
theorem flat_lt {α : Type} {gs : List (List α)} {g : List α} (hne : ∀ h ∈ gs, h ≠ []) (h2 : 2 ≤ gs.length) (hg : g ∈ gs) : g.length < gs.flatten.length := by
  induction gs with
  | nil => cases hg
  | cons h gs ih =>
    rw [List.flatten_cons, List.length_append]
    have hh := List.length_pos_iff.2 (hne h (by simp))
    rcases List.mem_cons.1 hg with rfl | hg
    · cases gs with
      | nil => simp at h2
      | cons k ks =>
        have := List.length_pos_iff.2 (hne k (by simp))
        rw [List.flatten_cons, List.length_append]
        omega
    · have : g.length ≤ gs.flatten.length := by
        clear ih h2
        induction gs with
        | nil => cases hg
        | cons k ks ih =>
          rw [List.flatten_cons, List.length_append]
          rcases List.mem_cons.1 hg with rfl | hg
          · omega
          · have := ih (fun x hx => hne x (by simp at hx ⊢; rcases hx with h | h <;> simp [h])) (by simp; exact .inr hg) hg; omega
      omega
theorem flat_le {α : Type} {gs : List (List α)} (hne : ∀ h ∈ gs, h ≠ []) : gs.length ≤ gs.flatten.length := by
  induction gs with
  | nil => exact Nat.le_refl _
  | cons h gs ih =>
    rw [List.flatten_cons, List.length_append, List.length_cons]
    have hh := List.length_pos_iff.2 (hne h (by simp))
    have := ih (fun x hx => hne x (by simp [hx]))
    omega
/-- the runs of a node: what is left behind its own key, parted by the byte behind what is shared -/
def runsR (l : List Pr) : List (List Pr) := runs (shareK l).length (offOwn (shareK l).length l)
def radKind (k : Nat) : Int := if k ≤ 4 then 6 else if k ≤ 16 then 7 else if k ≤ 48 then 8 else 9
def nodeR (l : List Pr) : Cel := { kind := radKind (runsR l).length, count := (l.length : Int), kids := ((runsR l).length : Int), full := (ownV (shareK l).length l).isSome, val := (ownV (shareK l).length l).getD 0, key := shareK l }
def radixOf : Nat → List Pr → List Cel
  | 0, _ => []
  | _ + 1, [] => []
  | _ + 1, [p] => [{ kind := 5, count := 1, val := p.2, key := p.1 }]
  | f + 1, l => nodeR l :: (runsR l).flatMap (radixOf f)
def radixD : Nat → List Pr → Nat
  | 0, _ => 0
  | _ + 1, [] => 0
  | _ + 1, [p] => 1
  | f + 1, l => (runsR l).foldl (fun d g => max d (radixD f g)) 0 + 1
theorem radixOf_node {f : Nat} {l : List Pr} (h2 : 2 ≤ l.length) : radixOf (f + 1) l = nodeR l :: (runsR l).flatMap (radixOf f) := by
  match l, h2 with
  | p :: q :: r, _ => rfl
theorem radixD_node {f : Nat} {l : List Pr} (h2 : 2 ≤ l.length) : radixD (f + 1) l = (runsR l).foldl (fun d g => max d (radixD f g)) 0 + 1 := by
  match l, h2 with
  | p :: q :: r, _ => rfl
theorem runsR_ok {l : List Pr} (hr : rises l = true) (hm : ∀ p ∈ l, p.1.length ≤ 65535) : RunsOk (shareK l) (offOwn (shareK l).length l) (runsR l) (-1) := by
  have hW := share_way hr hm
  obtain ⟨o1, o2, o3⟩ := own_off hW
  exact runs_ok _ (Nat.le_refl _) (hW.sub o3) o2 (fun p _ => by omega)
theorem runsR_two {l : List Pr} (hr : rises l = true) (hm : ∀ p ∈ l, p.1.length ≤ 65535) (h2 : 2 ≤ l.length) :
    2 ≤ (runsR l).length + (if (ownV (shareK l).length l).isSome then 1 else 0) ∧ ∀ g ∈ runsR l, g.length < l.length := by
  have hW := share_way hr hm
  obtain ⟨o1, o2, o3⟩ := own_off hW
  have hk := runsR_ok hr hm
  have hne : ∀ g ∈ runsR l, g ≠ [] := fun g hg => by obtain ⟨b, _, h, _⟩ := hk.one g hg; exact h
  have hlen := congrArg List.length o1
  rw [List.length_append] at hlen
  cases ho : ownV (shareK l).length l with
  | some v =>
    rw [ho] at hlen
    have hlen : 1 + (offOwn (shareK l).length l).length = l.length := hlen
    refine ⟨?_, fun g hg => ?_⟩
    · have : (runsR l).length ≠ 0 := fun e => by
        have h1 := hk.flat
        rw [List.length_eq_zero_iff.1 e] at h1
        rw [← h1] at hlen
        simp at hlen
        omega
      simp
      omega
    · obtain ⟨b, _, _, _, h⟩ := hk.one g hg
      omega
  | none =>
    rw [ho] at hlen o1
    have o1 : offOwn (shareK l).length l = l := o1
    rw [o1] at o2
    have hk2 : 2 ≤ (runsR l).length := by
      rcases Nat.lt_or_ge (runsR l).length 2 with h | h
      · exfalso
        have hf := hk.flat
        rw [o1] at hf
        have hpos : 0 < l.length := by omega
        obtain ⟨p0, hp0⟩ : ∃ p, l[0]? = some p := ⟨_, List.getElem?_eq_getElem (by omega)⟩
        obtain ⟨pn, hpn⟩ : ∃ p, l[l.length - 1]? = some p := ⟨_, List.getElem?_eq_getElem (by omega)⟩
        match hgs : runsR l, h with
        | [], _ => rw [hgs] at hf; rw [← hf] at hpos; simp at hpos
        | [g], _ =>
          rw [hgs] at hf
          have hf : g = l := by simpa using hf
          obtain ⟨b, _, _, hg, _⟩ := hk.one g (by rw [hgs]; simp)
          rw [hf] at hg
          have hb : ∀ p ∈ l, byK (shareK l).length p = b := fun p hp => by
            obtain ⟨m, hm'⟩ := begins_iff.1 (hg.beg p hp)
            unfold byK
            rw [hm', List.append_assoc, List.getD_eq_getElem?_getD, List.getElem?_append_right (Nat.le_refl _)]
            simp
          exact share_parts hr h2 o2 hp0 hpn ((hb p0 (List.mem_of_getElem? hp0)).trans (hb pn (List.mem_of_getElem? hpn)).symm)
        | _ :: _ :: _, h => simp at h; omega
      · exact h
    refine ⟨by simp; omega, fun g hg => ?_⟩
    have := flat_lt hne hk2 hg
    rw [hk.flat, o1] at this
    exact this
theorem radixOf_key {w : Bytes} {l : List Pr} (f : Nat) (hW : Way w l) (hne : l ≠ []) : ∃ c m, radixOf (f + 1) l = c :: m ∧ begins c.key w = true := by
  match l, hne with
  | [p], _ => exact ⟨_, _, rfl, hW.beg p (by simp)⟩
  | p :: q :: r, _ => exact ⟨_, _, rfl, share_beg hW (by simp)⟩
/-- the children that are left -/
theorem kidsR_runs {w : Bytes} {cs : List Cel} {rd : Nat → Bytes → Option PT} {of : List Pr → List Cel} {dp : List Pr → Nat} {rest : List Cel} {i0 : Nat} : ∀ (gs : List (List Pr)) (r : PT) (last : Int),
    (∀ g ∈ gs, ∃ b : UInt8, last < (b.toNat : Int) ∧ g ≠ [] ∧ Way (w ++ [b]) g ∧ (∃ c m, of g = c :: m ∧ begins c.key (w ++ [b]) = true) ∧ ∀ i rest', i0 < i → cs.drop i = of g ++ rest' → rd i (w ++ [b]) = some ⟨g, i + (of g).length, dp g⟩) →
    (gs.Pairwise fun g h => ∀ p ∈ g, ∀ q ∈ h, byK w.length p < byK w.length q) → i0 < r.next → cs.drop r.next = gs.flatMap of ++ rest →
    kidsR rd cs w gs.length r last = some ⟨r.P ++ gs.flatten, r.next + (gs.flatMap of).length, gs.foldl (fun d g => max d (dp g)) r.deep⟩ := by
  intro gs
  induction gs with
  | nil =>
    intro r last _ _ _ _
    cases r
    simp [kidsR]
  | cons g gs ih =>
    intro r last h hp hi hd
    rw [List.pairwise_cons] at hp
    obtain ⟨b, hb, hne, hW, ⟨c, m, hc, hck⟩, hrd⟩ := h g (by simp)
    rw [List.flatMap_cons, List.append_assoc] at hd
    have h1 := hrd r.next _ hi hd
    have hd2 := hd
    rw [hc, List.cons_append] at hd2
    have hget := (drop_head' hd2).1
    have hdm := drop_more' hd rfl
    obtain ⟨z, hz⟩ := begins_iff.1 hck
    have hkl : w.length < c.key.length := by rw [hz]; simp <;> omega
    have hgb : c.key.getD w.length 0 = b := by
      rw [hz, List.append_assoc, List.getD_eq_getElem?_getD, List.getElem?_append_right (Nat.le_refl _)]
      simp
    rw [List.length_cons]
    unfold kidsR
    rw [hget]
    simp only
    rw [hgb, if_pos ⟨hkl, hb⟩, h1]
    simp only
    have hx : 0 < (of g).length := by rw [hc]; simp
    rw [ih ⟨r.P ++ g, r.next + (of g).length, max r.deep (dp g)⟩ b.toNat (fun k hk => by
      obtain ⟨b', _, hne', hW', hrest⟩ := h k (List.mem_cons_of_mem _ hk)
      refine ⟨b', ?_, hne', hW', hrest⟩
      obtain ⟨p, hp1⟩ := List.exists_mem_of_ne_nil g hne
      obtain ⟨q, hq1⟩ := List.exists_mem_of_ne_nil k hne'
      have hlt := hp.1 k hk p hp1 q hq1
      have eb : ∀ (w : Bytes) (b : UInt8) (p : Pr), begins p.1 (w ++ [b]) = true → byK w.length p = b := fun w b p hp => by
        obtain ⟨m, hm'⟩ := begins_iff.1 hp
        unfold byK
        rw [hm', List.append_assoc, List.getD_eq_getElem?_getD, List.getElem?_append_right (Nat.le_refl _)]
        simp
      rw [eb w b p (hW.beg p hp1), eb w b' q (hW'.beg q hq1)] at hlt
      have := UInt8.lt_iff_toNat_lt.1 hlt
      omega) hp.2 (by show i0 < r.next + _; omega) hdm]
    simp only [List.flatten_cons, List.flatMap_cons, List.foldl_cons, List.append_assoc, List.length_append, Nat.add_assoc]
theorem fold_le {gs : List (List Pr)} {dp : List Pr → Nat} {n d : Nat} (h : ∀ g ∈ gs, dp g ≤ n) (hd : d ≤ n) : gs.foldl (fun d g => max d (dp g)) d ≤ n := by
  induction gs generalizing d with
  | nil => exact hd
  | cons g gs ih =>
    rw [List.foldl_cons]
    refine ih (fun k hk => h k (List.mem_cons_of_mem _ hk)) ?_
    have := h g (by simp)
    omega
theorem band_kind {k : Nat} (h : k ≤ 256) : bandC (radKind k) k := by
  unfold radKind bandC
  repeat' split
  all_goals omega
theorem rdR_radixOf : ∀ (f : Nat) {l : List Pr} {way : Bytes} {g : Nat} {cs : List Cel} {i : Nat} {rest : List Cel}, l ≠ [] → l.length ≤ f → l.length ≤ 256 → Way way l → cs.drop i = radixOf f l ++ rest → cs.length < i + g → rdR g cs i way = some ⟨l, i + (radixOf f l).length, radixD f l⟩ := by
  intro f
  induction f with
  | zero => intro l way g cs i rest hne hl; exact absurd (List.length_eq_zero_iff.1 (by omega)) hne
  | succ f ih =>
    intro l way g cs i rest hne hl h256 hW hd hg
    by_cases h2 : 2 ≤ l.length
    · have hk := runsR_ok hW.rise hW.may
      obtain ⟨k2, kl⟩ := runsR_two hW.rise hW.may h2
      have hWs := share_way hW.rise hW.may
      obtain ⟨o1, o2, o3⟩ := own_off hWs
      rw [radixOf_node h2] at hd ⊢
      rw [radixD_node h2]
      obtain ⟨hget, hdr⟩ := drop_head' (show cs.drop i = _ :: ((runsR l).flatMap (radixOf f) ++ rest) from hd)
      have hlt := (List.getElem?_eq_some_iff.1 hget).1
      obtain ⟨g', rfl⟩ : ∃ g', g = g' + 1 := ⟨g - 1, by omega⟩
      have hks : (shareK l).length ≤ 65535 := by
        obtain ⟨p, hp⟩ := List.exists_mem_of_ne_nil l hne
        have h1 := beg_le (hWs.beg p hp)
        have h3 := hW.may p hp
        omega
      have hrl : (runsR l).length ≤ 256 := by
        have h1 := flat_le (gs := runsR l) (fun g hg => by obtain ⟨b, _, h, _⟩ := hk.one g hg; exact h)
        rw [hk.flat] at h1
        have := o3.length_le
        omega
      have hkd : radKind (runsR l).length ≠ 5 := by unfold radKind; repeat' split <;> omega
      rw [rdR_some hget, if_pos ⟨share_beg hW hne, hks⟩, if_neg (fun h => hkd h.kind), if_pos (⟨rfl, rfl, rfl, by
        unfold nodeR
        cases ownV (shareK l).length l with
        | some v => exact .inl rfl
        | none => exact .inr rfl, by
        show 2 ≤ ((runsR l).length : Int) + (if (ownV (shareK l).length l).isSome = true then 1 else 0)
        split at k2 <;> rename_i hs
        · rw [if_pos hs]; omega
        · rw [if_neg hs]; omega, band_kind hrl⟩ : NodeR (nodeR l))]
      have hkn : (nodeR l).kids.toNat = (runsR l).length := by show ((runsR l).length : Int).toNat = _; omega
      rw [hkn]
      have hkey : (nodeR l).key = shareK l := rfl
      rw [hkey, kidsR_runs (w := shareK l) (cs := cs) (rd := rdR g' cs) (of := radixOf f) (dp := radixD f) (rest := rest) (i0 := i) (runsR l) (begR (nodeR l) i) (-1) (fun k hkm => by
        obtain ⟨b, b1, b2, b3, b4⟩ := hk.one k hkm
        have hkf := kl k hkm
        obtain ⟨f', rfl⟩ : ∃ f', f = f' + 1 := ⟨f - 1, by have := List.length_pos_iff.2 b2; omega⟩
        exact ⟨b, b1, b2, b3, radixOf_key f' b3 b2, fun j rest' hj hdj => ih b2 (by omega) (by omega) b3 hdj (by omega)⟩) hk.rise (Nat.lt_succ_self i) hdr]
      simp only [Option.bind_some]
      have hP : (begR (nodeR l) i).P = TT.ownP (ownV (shareK l).length l) (shareK l) := by
        show (if (ownV (shareK l).length l).isSome = true then [(shareK l, (ownV (shareK l).length l).getD 0)] else []) = _
        cases ownV (shareK l).length l <;> rfl
      rw [hP, hk.flat, o1]
      unfold endT
      rw [if_pos (by rfl)]
      show some _ = some (⟨l, _, _⟩ : PT)
      congr 2
      show i + 1 + _ = i + (_ :: _).length
      rw [List.length_cons]
      omega
    · match l, hne, h2 with
      | [p], _, _ =>
        have hget := (drop_head' (hd : cs.drop i = _ :: rest)).1
        have hlt := (List.getElem?_eq_some_iff.1 hget).1
        obtain ⟨g', rfl⟩ : ∃ g', g = g' + 1 := ⟨g - 1, by omega⟩
        have hp := hW.may p (by simp)
        rw [rdR_some hget, if_pos ⟨hW.beg p (by simp), hp⟩, if_pos ⟨rfl, rfl, rfl, rfl, rfl, rfl, rfl, hp⟩]
        rfl
      | p :: q :: r, _, h2 => exact absurd (by simp) h2
theorem radixD_le : ∀ (f : Nat) {l : List Pr} {way : Bytes} {M : Nat}, l ≠ [] → l.length ≤ f → Way way l → (∀ p ∈ l, p.1.length ≤ M) → radixD f l + way.length ≤ M + 1 := by
  intro f
  induction f with
  | zero => intro l way M hne hl; exact absurd (List.length_eq_zero_iff.1 (by omega)) hne
  | succ f ih =>
    intro l way M hne hl hW hM
    by_cases h2 : 2 ≤ l.length
    · have hk := runsR_ok hW.rise hW.may
      obtain ⟨k2, kl⟩ := runsR_two hW.rise hW.may h2
      obtain ⟨o1, o2, o3⟩ := own_off (share_way hW.rise hW.may)
      have hb := beg_le (share_beg hW hne)
      have hM0 : way.length ≤ M := by
        obtain ⟨p, hp⟩ := List.exists_mem_of_ne_nil l hne
        have h1 := beg_le (hW.beg p hp)
        have h3 := hM p hp
        omega
      rw [radixD_node h2]
      have := fold_le (gs := runsR l) (dp := radixD f) (n := M - way.length) (d := 0) (fun k hkm => by
        obtain ⟨b, b1, b2, b3, b4⟩ := hk.one k hkm
        have hkf := kl k hkm
        have hsub : ∀ p ∈ k, p ∈ l := fun p hp => o3.subset (by rw [← hk.flat]; exact List.mem_flatten.2 ⟨k, hkm, hp⟩)
        have := ih b2 (by omega) b3 (fun p hp => hM p (hsub p hp))
        rw [List.length_append] at this
        simp at this
        omega) (Nat.zero_le _)
      omega
    · match l, hne, h2 with
      | [p], _, _ =>
        have h1 := beg_le (hW.beg p (by simp))
        have h3 := hM p (by simp)
        show 1 + way.length ≤ _
        omega
      | p :: q :: r, _, h2 => exact absurd (by simp) h2
/-! other values -/
theorem shareK_map {g : Pr → Pr} (hg : ∀ p, (g p).1 = p.1) {l : List Pr} (hne : l ≠ []) : shareK (l.map g) = shareK l := by
  unfold shareK
  rw [firstK_map hg hne, lastK_map hg hne]
theorem runsR_map {g : Pr → Pr} (hg : ∀ p, (g p).1 = p.1) {l : List Pr} (hne : l ≠ []) : runsR (l.map g) = (runsR l).map (List.map g) := by
  unfold runsR
  rw [shareK_map hg hne, offOwn_map hg]
  exact runs_map hg _ _ _ (Nat.le_refl _)
theorem flat_map_len {of : List Pr → List Cel} {g : Pr → Pr} (h : ∀ l, (of (l.map g)).length = (of l).length) (gs : List (List Pr)) : ((gs.map (List.map g)).flatMap of).length = (gs.flatMap of).length := by
  induction gs with
  | nil => rfl
  | cons k gs ih => rw [List.map_cons, List.flatMap_cons, List.flatMap_cons, List.length_append, List.length_append, h, ih]
theorem fold_map {dp : List Pr → Nat} {g : Pr → Pr} (h : ∀ l, dp (l.map g) = dp l) (gs : List (List Pr)) (d : Nat) : (gs.map (List.map g)).foldl (fun d g => max d (dp g)) d = gs.foldl (fun d g => max d (dp g)) d := by
  induction gs generalizing d with
  | nil => rfl
  | cons k gs ih => rw [List.map_cons, List.foldl_cons, List.foldl_cons, h, ih]
theorem radixOf_map {g : Pr → Pr} (hg : ∀ p, (g p).1 = p.1) : ∀ (f : Nat) (l : List Pr), (radixOf f (l.map g)).length = (radixOf f l).length ∧ radixD f (l.map g) = radixD f l := by
  intro f
  induction f with
  | zero => intro l; exact ⟨rfl, rfl⟩
  | succ f ih =>
    intro l
    by_cases h2 : 2 ≤ l.length
    · have hne : l ≠ [] := fun e => by rw [e] at h2; simp at h2
      rw [radixOf_node h2, radixD_node h2, radixOf_node (by simpa using h2), radixD_node (by simpa using h2), runsR_map hg hne, List.length_cons, List.length_cons, flat_map_len (fun l => (ih l).1), fold_map (fun l => (ih l).2)]
      exact ⟨rfl, rfl⟩
    · match l, h2 with
      | [], _ => exact ⟨rfl, rfl⟩
      | [p], _ => exact ⟨rfl, rfl⟩
      | p :: q :: r, h2 => exact absurd (by simp) h2
end Go.Proofs.YtkdmcbacofafpaaDoor.X
