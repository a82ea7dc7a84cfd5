/- What chapter 11 reads of cells, by readers that are told no way. No program in it. -/
import Derived.Test.YtkdmcbacofafpaaDoorP11
namespace Go.Proofs.YtkdmcbacofafpaaDoor.X
open Go
set_option linter.unusedVariables false
set_option linter.unusedSimpArgs false
set_option maxRecDepth 10000

structure KidC (exact : Bool) (k : Bytes) (last : Int) (d : Cel) : Prop where
  long : k.length < d.key.length
  exact : exact = true → d.key.length = k.length + 1
  beg : begins d.key k = true
  last : last < ((d.key.getD k.length 0).toNat : Int)
open Classical in
/-- the children of a node -/
noncomputable def kidsX (exact : Bool) (rd : Nat → Option PT) (l : List Cel) (k : Bytes) : Nat → PT → Int → Option PT
  | 0, r, _ => some r
  | m + 1, r, last => match l[r.next]? with
    | none => none
    | some d => if KidC exact k last d then
        (match rd r.next with
        | none => none
        | some x => kidsX exact rd l k m ⟨r.P ++ x.P, x.next, max r.deep x.deep⟩ (d.key.getD k.length 0).toNat)
      else none
open Classical in
theorem kidsX_some {exact : Bool} {rd : Nat → Option PT} {l : List Cel} {k : Bytes} {m : Nat} {r : PT} {last : Int} {d : Cel} (hd : l[r.next]? = some d) : kidsX exact rd l k (m + 1) r last = if KidC exact k last d then
        (match rd r.next with
        | none => none
        | some x => kidsX exact rd l k m ⟨r.P ++ x.P, x.next, max r.deep x.deep⟩ (d.key.getD k.length 0).toNat)
      else none := by
  conv => lhs; unfold kidsX
  simp only [hd]
theorem kidsX_none {exact : Bool} {rd : Nat → Option PT} {l : List Cel} {k : Bytes} {m : Nat} {r : PT} {last : Int} (hd : l[r.next]? = none) : kidsX exact rd l k (m + 1) r last = none := by
  unfold kidsX
  simp only [hd]
theorem begins_getD {d k : Bytes} (h : k.length < d.length) : begins d (k ++ [d.getD k.length 0]) = begins d k := by
  rw [Bool.eq_iff_iff, begins_iff, begins_iff]
  constructor
  · rintro ⟨m, e⟩
    exact ⟨[d.getD k.length 0] ++ m, by rw [← List.append_assoc]; exact e⟩
  · rintro ⟨m, rfl⟩
    cases m with
    | nil => simp at h
    | cons b m => exact ⟨m, by rw [List.getD_eq_getElem?_getD, List.getElem?_append_right (Nat.le_refl _)]; simp⟩
theorem rdR_way {l : List Cel} {i : Nat} {c : Cel} (hc : l[i]? = some c) (f : Nat) (way : Bytes) : rdR f l i way = if begins c.key way = true then rdR f l i [] else none := by
  cases f with
  | zero => show none = if _ then none else none; split <;> rfl
  | succ f =>
    rw [rdR_some hc, rdR_some hc]
    have h0 : begins c.key [] = true := begins_iff.2 ⟨c.key, rfl⟩
    by_cases h : begins c.key way = true
    · rw [if_pos h]
      simp only [h, h0, true_and]
    · rw [if_neg h, if_neg (fun e => h e.1)]
theorem kidsR_X {f : Nat} {l : List Cel} {k : Bytes} : ∀ (m : Nat) (r : PT) (last : Int), kidsR (rdR f l) l k m r last = kidsX false (fun n => rdR f l n []) l k m r last := by
  intro m
  induction m with
  | zero => intro r last; rfl
  | succ m ih =>
    intro r last
    cases hd : l[r.next]? with
    | none => rw [kidsX_none hd]; unfold kidsR; rw [hd]
    | some d =>
      rw [kidsX_some hd]
      unfold kidsR
      rw [hd]
      simp only
      by_cases h1 : k.length < d.key.length ∧ last < ((d.key.getD k.length 0).toNat : Int)
      · rw [if_pos h1, rdR_way hd, begins_getD h1.1]
        by_cases h2 : begins d.key k = true
        · rw [if_pos h2, if_pos (⟨h1.1, (fun e => by cases e), h2, h1.2⟩ : KidC false k last d)]
          cases rdR f l r.next [] with
          | none => rfl
          | some x => exact ih _ _
        · rw [if_neg h2, if_neg (fun h : KidC false k last d => h2 h.beg)]
      · rw [if_neg h1, if_neg (fun h : KidC false k last d => h1 ⟨h.long, h.last⟩)]

/-! burst tries -/
noncomputable def rdBk (f : Nat) (l : List Cel) (i : Nat) : Option PT := match l[i]? with
  | none => none
  | some c => rdB f l i c.key
theorem rdBk_some {f : Nat} {l : List Cel} {i : Nat} {c : Cel} (hc : l[i]? = some c) : rdBk f l i = rdB f l i c.key := by
  unfold rdBk
  rw [hc]
theorem rdBk_none {f : Nat} {l : List Cel} {i : Nat} (hc : l[i]? = none) : rdBk f l i = none := by
  unfold rdBk
  rw [hc]
theorem readB_key {f : Nat} {l : List Cel} {i : Nat} {w : Bytes} (h : (readB f l i w).ok = true) : ∃ c, l[i]? = some c ∧ c.key = w := by
  cases f with
  | zero => cases h
  | succ f =>
    unfold readB at h
    cases hc : l[i]? with
    | none => rw [hc] at h; cases h
    | some c =>
      rw [hc] at h
      simp only at h
      split at h
      · rename_i h1
        exact ⟨c, rfl, h1.1⟩
      · cases h
def RelB (R : RD) (r : PT) : Prop := R.P = r.P ∧ R.next = r.next ∧ R.deep = (r.deep : Int)
theorem kidsB_lt {rd : Nat → Bytes → RD} {l : List Cel} {w : Bytes} : ∀ (m : Nat) {R R' : RD} {last : Int}, kidsB rd l w m R last = some R' → last + m ≤ 255 ∨ m = 0 := by
  intro m
  induction m with
  | zero => intro R R' last _; exact .inr rfl
  | succ m ih =>
    intro R R' last e
    unfold kidsB at e
    cases hd : l[R.next]? with
    | none => rw [hd] at e; cases e
    | some d =>
      rw [hd] at e
      simp only at e
      have := (d.key.getD w.length 0).toNat_lt
      split at e
      · rename_i h1
        split at e
        · have := ih e
          have := h1.2
          left
          omega
        · cases e
      · cases e
theorem kidsB_X {f : Nat} {l : List Cel} {k : Bytes} (hl : l.length ≤ 1000000) : ∀ (m : Nat) {R : RD} {r : PT} {last : Int}, RelB R r → (kidsB (readB f l) l k m R last = none ∧ kidsX true (rdBk f l) l k m r last = none) ∨ ∃ R' r', kidsB (readB f l) l k m R last = some R' ∧ kidsX true (rdBk f l) l k m r last = some r' ∧ RelB R' r' := by
  intro m
  induction m with
  | zero => intro R r last h; exact .inr ⟨R, r, rfl, rfl, h⟩
  | succ m ih =>
    intro R r last hR
    have hn : R.next = r.next := hR.2.1
    cases hd : l[r.next]? with
    | none =>
      left
      refine ⟨?_, kidsX_none hd⟩
      unfold kidsB
      rw [hn, hd]
    | some d =>
      rw [kidsX_some hd]
      unfold kidsB
      rw [hn, hd]
      simp only
      by_cases h1 : d.key.length = k.length + 1 ∧ last < ((d.key.getD k.length 0).toNat : Int)
      · rw [if_pos h1]
        have hkl : k.length < d.key.length := by omega
        by_cases h2 : begins d.key k = true
        · rw [if_pos (⟨hkl, (fun _ => h1.1), h2, h1.2⟩ : KidC true k last d), rdBk_some hd]
          have hkey : d.key = k ++ [d.key.getD k.length 0] := by
            have h3 := begins_getD hkl
            rw [h2, begins_iff] at h3
            obtain ⟨m, e⟩ := h3
            have e2 : m = [] := by
              have := congrArg List.length e
              simp at this
              exact List.length_eq_zero_iff.1 (by omega)
            rw [e2, List.append_nil] at e
            exact e
          generalize hb : d.key.getD k.length 0 = b at hkey ⊢
          rw [hkey]
          have hdp := @readB_deep l hl f r.next (k ++ [b])
          unfold rdB
          by_cases h3 : (readB f l r.next (k ++ [b])).ok = true
          · rw [if_pos h3, if_pos h3]
            have h4 := hdp h3
            refine ih ⟨?_, rfl, ?_⟩
            · show R.P ++ _ = r.P ++ _
              rw [hR.1]
            · show max R.deep (readB f l r.next (k ++ [b])).deep = ((max r.deep (readB f l r.next (k ++ [b])).deep.toNat : Nat) : Int)
              rw [hR.2.2]
              omega
          · rw [if_neg h3, if_neg h3]
            exact .inl ⟨rfl, rfl⟩
        · rw [if_neg (fun h : KidC true k last d => h2 h.beg)]
          left
          refine ⟨?_, rfl⟩
          rw [if_neg]
          intro h3
          obtain ⟨c, hc, hk⟩ := readB_key h3
          rw [hd] at hc
          injection hc with hc
          subst hc
          exact h2 (begins_iff.2 ⟨_, hk⟩)
      · rw [if_neg h1, if_neg (fun h : KidC true k last d => h1 ⟨h.exact rfl, h.last⟩)]
        exact .inl ⟨rfl, rfl⟩
theorem rdBk_shelf {f : Nat} {l : List Cel} {i : Nat} {c : Cel} (hc : l[i]? = some c) (hk : c.kind = 11) : rdBk (f + 1) l i = if c.at_ = 0 ∧ c.byte = 0 ∧ okB c c.key = true then some ⟨c.pairs, i + 1, 1⟩ else none := by
  rw [rdBk_some hc]
  unfold rdB readB
  rw [hc]
  simp only
  by_cases h : c.at_ = 0 ∧ c.byte = 0
  · have h1 : okC c c.key := ⟨rfl, h.1, h.2⟩
    rw [if_pos h1, if_pos hk]
    simp only [h.1, h.2, true_and]
    by_cases h2 : okB c c.key = true
    · rw [if_pos h2, if_pos h2]; rfl
    · rw [if_neg h2, if_neg h2]
  · rw [if_neg (fun e : okC c c.key => h ⟨e.2.1, e.2.2⟩), if_neg (fun e : c.at_ = 0 ∧ c.byte = 0 ∧ okB c c.key = true => h ⟨e.1, e.2.1⟩)]
    rfl
open Classical in
theorem rdBk_node {f : Nat} {l : List Cel} {i : Nat} {c : Cel} (hl : l.length ≤ 1000000) (hc : l[i]? = some c) (hk : c.kind ≠ 11) : rdBk (f + 1) l i = if InnerP c ∧ c.kind = 10 then (kidsX true (rdBk f l) l c.key c.kids.toNat (begR c i) (-1)).bind (fun r => if c.count = (r.P.length : Int) ∧ 4 < c.count then some ⟨r.P, r.next, r.deep + 1⟩ else none) else none := by
  rw [rdBk_some hc]
  have hil := (List.getElem?_eq_some_iff.1 hc).1
  unfold rdB
  have e0 : readB (f + 1) l i c.key = if okC c c.key then (if okN c then nodeB (readB f l) l c i c.key else {}) else {} := by
    conv => lhs; unfold readB
    rw [hc]
    simp only
    by_cases h : okC c c.key
    · rw [if_pos h, if_pos h, if_neg hk]
    · rw [if_neg h, if_neg h]
  rw [e0]
  by_cases h1 : okC c c.key ∧ okN c
  · rw [if_pos h1.1, if_pos h1.2]
    obtain ⟨⟨_, ha, hb⟩, hkd, hp, hfu, hk0⟩ := h1
    unfold nodeB
    have hbeg : RelB (beginB c i) (begR c i) := ⟨rfl, rfl, rfl⟩
    by_cases h256 : c.kids ≤ 256
    · have em : (min c.kids 257).toNat = c.kids.toNat := by omega
      rw [em]
      rcases kidsB_X (f := f) (k := c.key) hl c.kids.toNat (last := -1) hbeg with ⟨g1, g2⟩ | ⟨R', r', g1, g2, g3⟩
      · rw [g1, g2]
        show (if false = true then _ else none) = _
        simp
      · rw [g1, g2]
        simp only
        have hd := kidsB_deep (fun n v => @readB_deep l hl f n v) _ (Nat.lt_succ_self i) (fun _ => ⟨Int.le_refl 0, by show (0 : Int) + i + 1 ≤ ((i + 1 : Nat) : Int); omega⟩) rfl g1
        have hh := kidsB_held (fun j v => readB_held f l j v) (i := i) _ (r := beginB c i) (fun _ => ⟨Nat.lt_succ_self i, hil, by
          show manys (l.take (i + 1)) = _ + (if c.full then [(c.key, c.val)] else []).length
          rw [manys_take hc]
          unfold Cel.many
          rw [hp]
          cases c.full <;> rfl⟩) g1 rfl
        have hd2 := hd hh.2
        have hle := (hh.1 hh.2).2.1
        unfold endB
        have el : (R'.P.length : Int) = r'.P.length := by rw [g3.1]
        by_cases h3 : c.count = (r'.P.length : Int) ∧ 4 < c.count
        · by_cases h4 : c.key.length ≤ 65535
          · rw [if_pos (⟨by rw [el]; exact h3.1, h3.2, h4⟩ : c.count = (R'.P.length : Int) ∧ 4 < c.count ∧ c.key.length ≤ 65535), if_pos (⟨⟨ha, hb, hp, hk0, h256, hfu, h4⟩, hkd⟩ : InnerP c ∧ c.kind = 10)]
            show (if R'.ok = true then _ else none) = (if _ then _ else none)
            rw [if_pos hh.2, if_pos h3]
            have ew : IntKind.i64.wrap (R'.deep + 1) = R'.deep + 1 := wrap_i64 (by omega) (by omega)
            show some (⟨R'.P, R'.next, (IntKind.i64.wrap (R'.deep + 1)).toNat⟩ : PT) = _
            rw [ew, g3.1, g3.2.1, g3.2.2]
            congr 2
          · rw [if_neg (fun e : c.count = (R'.P.length : Int) ∧ 4 < c.count ∧ c.key.length ≤ 65535 => h4 e.2.2), if_neg (fun e : InnerP c ∧ c.kind = 10 => h4 e.1.key)]
            rfl
        · rw [if_neg (fun e : c.count = (R'.P.length : Int) ∧ 4 < c.count ∧ c.key.length ≤ 65535 => h3 ⟨by rw [← el]; exact e.1, e.2.1⟩)]
          show none = _
          split
          · show none = (if _ then _ else none)
            rw [if_neg h3]
          · rfl
    · have em : (min c.kids 257).toNat = 257 := by omega
      rw [em]
      cases hkb : kidsB (readB f l) l c.key 257 (beginB c i) (-1) with
      | none =>
        rw [if_neg (fun e : InnerP c ∧ c.kind = 10 => h256 e.1.kids)]
        rfl
      | some R' =>
        have := kidsB_lt _ hkb
        omega
  · have h2 : ¬ (InnerP c ∧ c.kind = 10) := fun e => h1 ⟨⟨rfl, e.1.at_, e.1.byte⟩, e.2, e.1.pairs, e.1.full, e.1.kids0⟩
    rw [if_neg h2]
    by_cases h3 : okC c c.key
    · rw [if_pos h3, if_neg (fun e => h1 ⟨h3, e⟩)]
      rfl
    · rw [if_neg h3]
      rfl
end Go.Proofs.YtkdmcbacofafpaaDoor.X
