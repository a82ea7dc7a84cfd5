/- What chapter 11's document reads of the cells of a burst trie. No program in it. -/
import Derived.Test.YtaloblomncjgkaaKcl
import Derived.Test.YtaloblomncjgkaaBtr4
namespace Go.Proofs.Ytaloblomncjgkaa.X
open Go
set_option linter.unusedVariables false
set_option linter.unusedSimpArgs false
set_option maxRecDepth 10000
attribute [local irreducible] allB
/-- what is read -/
structure RD where
  P : List Pr := []
  next : Nat := 0
  deep : Int := 0
  ok : Bool := false
structure OkS (c : Cel) : Prop where
  full : c.full = false
  val : c.val = 0
  one : 1 ≤ c.pairs.length
  most : c.pairs.length ≤ 8
  kids : c.kids = c.pairs.length
  count : c.count = c.pairs.length
  rise : rises c.pairs = true
  may : longs c.pairs = false
open Classical in
noncomputable def okS (c : Cel) : Bool := decide (OkS c)
theorem okS_yes {c : Cel} (h : OkS c) : okS c = true := by unfold okS; simp [h]
theorem okS_no {c : Cel} (h : ¬ OkS c) : okS c = false := by unfold okS; simp [h]
theorem okS_of {c : Cel} (h : okS c = true) : OkS c := by unfold okS at h; simpa using h
noncomputable def okB (c : Cel) (w : Bytes) : Bool := okS c && c.pairs.all fun p => begins p.1 w
/-- the children -/
def kidsB (rd : Nat → Bytes → RD) (l : List Cel) (w : Bytes) : Nat → RD → Int → Option RD
  | 0, r, _ => some r
  | m + 1, r, last => match l[r.next]? with
    | none => none
    | some d => if d.key.length = w.length + 1 ∧ last < ((d.key.getD w.length 0).toNat : Int) then
        (if (rd r.next (w ++ [d.key.getD w.length 0])).ok then
          kidsB rd l w m ⟨r.P ++ (rd r.next (w ++ [d.key.getD w.length 0])).P, (rd r.next (w ++ [d.key.getD w.length 0])).next, max r.deep (rd r.next (w ++ [d.key.getD w.length 0])).deep, true⟩ (d.key.getD w.length 0).toNat
        else none)
      else none
def beginB (c : Cel) (i : Nat) : RD := ⟨if c.full then [(c.key, c.val)] else [], i + 1, 0, true⟩
def endB (c : Cel) (r : RD) : RD := if c.count = r.P.length ∧ 4 < c.count ∧ c.key.length ≤ 65535 then { r with deep := IntKind.i64.wrap (r.deep + 1) } else {}
/-- a cell that may be a node's -/
def okN (c : Cel) : Prop := c.kind = 10 ∧ c.pairs = [] ∧ (c.full = true ∨ c.val = 0) ∧ 0 ≤ c.kids
instance (c : Cel) : Decidable (okN c) := inferInstanceAs (Decidable (_ ∧ _))
def okC (c : Cel) (w : Bytes) : Prop := c.key = w ∧ c.at_ = 0 ∧ c.byte = 0
instance (c : Cel) (w : Bytes) : Decidable (okC c w) := inferInstanceAs (Decidable (_ ∧ _))
def nodeB (rd : Nat → Bytes → RD) (l : List Cel) (c : Cel) (i : Nat) (w : Bytes) : RD :=
  match kidsB rd l w (min c.kids 257).toNat (beginB c i) (-1) with
  | none => {}
  | some r => endB c r
noncomputable def readB : Nat → List Cel → Nat → Bytes → RD
  | 0, _, _, _ => {}
  | f + 1, l, i, w => match l[i]? with
    | none => {}
    | some c => if okC c w then
        (if c.kind = 11 then ⟨c.pairs, i + 1, 1, okB c w⟩
        else if okN c then nodeB (readB f l) l c i w else {})
      else {}
/-- what was read is all that there is -/
def Held (l : List Cel) (i : Nat) (r : RD) : Prop := r.ok = true → i < r.next ∧ r.next ≤ l.length ∧ manys (l.take r.next) = manys (l.take i) + r.P.length
theorem kidsB_held {rd : Nat → Bytes → RD} {l : List Cel} {w : Bytes} (h : ∀ i v, Held l i (rd i v)) {i : Nat} : ∀ (m : Nat) {r r' : RD} {last : Int}, Held l i r → kidsB rd l w m r last = some r' → r.ok = true → Held l i r' ∧ r'.ok = true := by
  intro m
  induction m with
  | zero => intro r r' last hr e ho; injection e with e; subst e; exact ⟨hr, ho⟩
  | succ m ih =>
    intro r r' last hr e ho
    unfold kidsB at e
    cases hd : l[r.next]? with
    | none => rw [hd] at e; cases e
    | some d =>
      rw [hd] at e
      simp only at e
      split at e
      · split at e
        · rename_i hok
          refine ih (fun _ => ?_) e rfl
          have h1 := hr ho
          have h2 := h _ _ hok
          refine ⟨by show i < (rd _ _).next; omega, h2.2.1, ?_⟩
          show manys (l.take (rd _ _).next) = _ + (r.P ++ (rd _ _).P).length
          rw [h2.2.2, h1.2.2, List.length_append]
          omega
        · cases e
      · cases e
theorem readB_held : ∀ (f : Nat) (l : List Cel) (i : Nat) (w : Bytes), Held l i (readB f l i w) := by
  intro f
  induction f with
  | zero => intro l i w h; cases h
  | succ f ih =>
    intro l i w
    unfold readB
    cases hc : l[i]? with
    | none => intro h; cases h
    | some c =>
      have hil := (List.getElem?_eq_some_iff.1 hc).1
      have hm := manys_take hc
      have hcm : c.many = c.pairs.length + (if c.full then 1 else 0) := rfl
      simp only
      split
      · split
        · intro h
          have h : okB c w = true := h
          have hf : c.full = false := by
            unfold okB at h
            rw [Bool.and_eq_true] at h
            exact (okS_of h.1).full
          rw [hf] at hcm
          refine ⟨Nat.lt_succ_self i, hil, ?_⟩
          show manys (l.take (i + 1)) = _ + c.pairs.length
          rw [hm, hcm]
          rfl
        · split
          · rename_i hN
            have hb : Held l i (beginB c i) := fun _ => ⟨Nat.lt_succ_self i, hil, by
              show manys (l.take (i + 1)) = _ + (if c.full then [(c.key, c.val)] else []).length
              rw [hm, hcm, hN.2.1]
              cases c.full <;> rfl⟩
            unfold nodeB
            split
            · intro h; cases h
            · rename_i r hr
              have h1 := (kidsB_held (fun j v => ih l j v) _ hb hr rfl).1
              unfold endB
              split
              · exact h1
              · intro h; cases h
          · intro h; cases h
      · intro h; cases h
theorem readB_P (f : Nat) (l : List Cel) (i : Nat) (w : Bytes) : (readB f l i w).P.length ≤ manys l := by
  by_cases h : (readB f l i w).ok = true
  · have h1 := readB_held f l i w h
    have h2 := manys_le l (readB f l i w).next
    omega
  · cases f with
    | zero => exact Nat.zero_le _
    | succ f =>
      unfold readB at h ⊢
      cases hc : l[i]? with
      | none => exact Nat.zero_le _
      | some c =>
        have hm := manys_take hc
        have h2 := manys_le l (i + 1)
        have hcm : c.many = c.pairs.length + (if c.full then 1 else 0) := rfl
        rw [hc] at h
        simp only at h ⊢
        split
        · rename_i h3
          rw [if_pos h3] at h
          split
          · show c.pairs.length ≤ _; omega
          · rename_i h4
            rw [if_neg h4] at h
            split
            · rename_i h5
              rw [if_pos h5] at h
              unfold nodeB at h ⊢
              split
              · exact Nat.zero_le _
              · rename_i r hr
                rw [hr] at h
                simp only at h
                unfold endB at h ⊢
                split
                · rename_i h6
                  rw [if_pos h6] at h
                  have hb : Held l i (beginB c i) := fun _ => ⟨Nat.lt_succ_self i, (List.getElem?_eq_some_iff.1 hc).1, by
                    show manys (l.take (i + 1)) = _ + (if c.full then [(c.key, c.val)] else []).length
                    rw [hm, hcm, h5.2.1]
                    cases c.full <;> rfl⟩
                  exact absurd (kidsB_held (fun j v => readB_held f l j v) _ hb hr rfl).2 h
                · exact Nat.zero_le _
            · exact Nat.zero_le _
        · exact Nat.zero_le _
theorem drop_head {α : Type} {l m : List α} {i : Nat} {a : α} (h : l.drop i = a :: m) : l[i]? = some a ∧ l.drop (i + 1) = m := by
  have h1 : (l.drop i)[0]? = some a := by rw [h]; rfl
  rw [List.getElem?_drop, Nat.add_zero] at h1
  refine ⟨h1, ?_⟩
  rw [← List.drop_drop, h]
  rfl
theorem drop_more {α : Type} {l a m : List α} {i n : Nat} (h : l.drop i = a ++ m) (hn : a.length = n) : l.drop (i + n) = m := by
  rw [← List.drop_drop, h, ← hn]
  simp
namespace BT
theorem cells_key {t : BT} (w : Bytes) (h : t ≠ .nil) : ∃ c m, t.cells w = c :: m ∧ c.key = w := by
  cases t with
  | nil => exact absurd rfl h
  | shelf ps => exact ⟨_, _, rfl, rfl⟩
  | node own kids => exact ⟨_, _, rfl, rfl⟩
def isKid (t : BT) : Nat := match t with | nil => 0 | _ => 1
theorem isKid_one {t : BT} (h : t ≠ .nil) : t.isKid = 1 := by cases t <;> first | rfl | exact absurd rfl h
end BT
/-- the children that are left -/
theorem kidsB_cells {kids : UInt8 → BT} {l : List Cel} {w : Bytes} {rd : Nat → Bytes → RD} {rest : List Cel} {i0 : Nat}
    (ih : ∀ (b : UInt8) (i : Nat) (rest : List Cel), kids b ≠ .nil → i0 < i → l.drop i = (kids b).cells (w ++ [b]) ++ rest → ∃ d, rd i (w ++ [b]) = ⟨(kids b).pairs (w ++ [b]), i + (kids b).size, d, true⟩) :
    ∀ (bs : List UInt8) (r : RD) (last : Int), bs.Pairwise (· < ·) → (∀ b ∈ bs, last < (b.toNat : Int)) → r.ok = true → i0 < r.next → l.drop r.next = (bs.flatMap fun b => (kids b).cells (w ++ [b])) ++ rest →
      ∃ d, kidsB rd l w (bs.map fun b => (kids b).isKid).sum r last = some ⟨r.P ++ bs.flatMap (fun b => (kids b).pairs (w ++ [b])), r.next + (bs.map fun b => (kids b).size).sum, d, true⟩ := by
  intro bs
  induction bs with
  | nil =>
    intro r last _ _ ho _ _
    refine ⟨r.deep, ?_⟩
    cases r
    simp only at ho
    subst ho
    simp [kidsB]
  | cons b bs ihb =>
    intro r last hp hl ho hi hd
    rw [List.pairwise_cons] at hp
    by_cases hk : kids b = .nil
    · simp only [List.map_cons, List.sum_cons, List.flatMap_cons, hk] at hd ⊢
      obtain ⟨d, h⟩ := ihb r last hp.2 (fun c hc => hl c (List.mem_cons_of_mem _ hc)) ho hi hd
      refine ⟨d, ?_⟩
      show kidsB rd l w (0 + _) r last = some ⟨r.P ++ ([] ++ _), r.next + (0 + _), d, true⟩
      rw [Nat.zero_add, List.nil_append, Nat.zero_add]
      exact h
    · simp only [List.map_cons, List.sum_cons, List.flatMap_cons] at hd ⊢
      rw [List.append_assoc] at hd
      obtain ⟨d1, h1⟩ := ih b r.next _ hk hi hd
      obtain ⟨c, m, hc, hck⟩ := BT.cells_key (w ++ [b]) hk
      have hd2 := hd
      rw [hc, List.cons_append] at hd2
      have hget := (drop_head hd2).1
      have hdm := drop_more hd (BT.cells_len _ _)
      rw [BT.isKid_one hk, Nat.add_comm 1]
      unfold kidsB
      rw [hget]
      have hgb : c.key.getD w.length 0 = b := by rw [hck]; simp [List.getD_eq_getElem?_getD]
      have hlen : c.key.length = w.length + 1 := by rw [hck]; simp
      simp only
      rw [hgb, if_pos ⟨hlen, hl b (List.mem_cons_self ..)⟩, h1]
      simp only [if_true]
      obtain ⟨d, h⟩ := ihb ⟨r.P ++ (kids b).pairs (w ++ [b]), r.next + (kids b).size, max r.deep d1, true⟩ b.toNat hp.2 (fun c hc => by
        have := hp.1 c hc
        rw [UInt8.lt_iff_toNat_lt] at this
        omega) rfl (by show i0 < r.next + _; omega) hdm
      refine ⟨d, ?_⟩
      rw [h]
      simp only [List.append_assoc, Nat.add_assoc]
theorem longs_no {l : List Pr} (h : ∀ p ∈ l, p.1.length ≤ 65535) : longs l = false := by
  unfold longs
  rw [List.any_eq_false]
  intro p hp
  have := h p hp
  simp
  omega
theorem readB_cells : ∀ (t : BT) {w : Bytes} {f : Nat} {l : List Cel} {i : Nat} {rest : List Cel}, t ≠ .nil → t.Wf w → l.drop i = t.cells w ++ rest → l.length < i + f → ∃ d, readB f l i w = ⟨t.pairs w, i + t.size, d, true⟩ := by
  intro t
  induction t with
  | nil => intro w f l i rest h; exact absurd rfl h
  | shelf ps =>
    intro w f l i rest _ hW hd hf
    have hget := (drop_head (hd : l.drop i = _ :: rest)).1
    have hlt := (List.getElem?_eq_some_iff.1 hget).1
    obtain ⟨f', rfl⟩ : ∃ f', f = f' + 1 := ⟨f - 1, by omega⟩
    refine ⟨1, ?_⟩
    unfold readB
    rw [hget]
    simp only
    rw [if_pos ⟨rfl, rfl, rfl⟩, if_true]
    have : okB { kind := 11, count := (ps.length : Int), kids := ps.length, key := w, pairs := ps } w = true := by
      unfold okB
      rw [Bool.and_eq_true]
      refine ⟨okS_yes ⟨rfl, rfl, List.length_pos_iff.2 hW.2.1, hW.2.2, rfl, rfl, hW.1.rise, longs_no hW.1.may⟩, ?_⟩
      rw [List.all_eq_true]
      exact fun p hp => hW.1.beg p hp
    rw [this]
    rfl
  | node own kids ih =>
    intro w f l i rest _ hW hd hf
    have hhd := drop_head (hd : l.drop i = _ :: ((allB.flatMap fun b => (kids b).cells (w ++ [b])) ++ rest))
    obtain ⟨hget, hdr⟩ := hhd
    have hlt := (List.getElem?_eq_some_iff.1 hget).1
    obtain ⟨f', rfl⟩ : ∃ f', f = f' + 1 := ⟨f - 1, by omega⟩
    obtain ⟨c, hc⟩ : ∃ c : Cel, c = { kind := 10, count := ((BT.node own kids).count : Int), kids := (BT.kidsN kids : Int), full := own.isSome, val := own.getD 0, key := w } := ⟨_, rfl⟩
    rw [← hc] at hget
    have hsum : (allB.map fun b => (kids b).isKid).sum = BT.kidsN kids := rfl
    have h256 : BT.kidsN kids ≤ 256 := by
      have h1 : BT.kidsN kids ≤ sumB fun _ => 1 := sumB_le fun b => by show (match kids b with | .nil => 0 | _ => 1) ≤ 1; cases kids b <;> simp
      have h2 : sumB (fun _ => 1) = 256 := by
        have h3 : ∀ l : List UInt8, (l.map fun _ => (1 : Nat)).sum = l.length := fun l => by
          induction l with
          | nil => rfl
          | cons a l ih => rw [List.map_cons, List.sum_cons, ih, List.length_cons]; omega
        show (allB.map fun _ => (1 : Nat)).sum = 256
        rw [h3]
        unfold allB
        rw [List.length_map, List.length_range]
      omega
    obtain ⟨d, h⟩ := kidsB_cells (kids := kids) (l := l) (w := w) (rd := readB f' l) (rest := rest) (i0 := i) (fun b j rest' hb hj hdj => ih b hb (hW.2.1 b) hdj (by omega)) allB (beginB c i) (-1) BT.allB_rise (fun b _ => by omega) rfl (Nat.lt_succ_self i) hdr
    rw [hsum] at h
    have hpr : (BT.node own kids).pairs w = (beginB c i).P ++ allB.flatMap (fun b => (kids b).pairs (w ++ [b])) := by
      show BT.ownP own w ++ _ = _
      congr 1
      rw [hc]
      unfold beginB BT.ownP
      cases own <;> rfl
    have hcnt : (BT.node own kids).count = ((BT.node own kids).pairs w).length := BT.count_pairs _ w
    have hN : okN c := by
      rw [hc]
      refine ⟨rfl, rfl, ?_, Int.natCast_nonneg _⟩
      cases own with
      | none => exact .inr rfl
      | some v => exact .inl rfl
    refine ⟨IntKind.i64.wrap (d + 1), ?_⟩
    unfold readB
    rw [hget]
    simp only
    have hk : ¬ c.kind = 11 := by rw [hc]; show ¬ (10 : Int) = 11; omega
    rw [if_pos ⟨by rw [hc], by rw [hc], by rw [hc]⟩, if_neg hk, if_pos hN]
    unfold nodeB
    have hmin : (min c.kids 257).toNat = BT.kidsN kids := by rw [hc]; show (min (BT.kidsN kids : Int) 257).toNat = _; omega
    rw [hmin, h]
    simp only
    unfold endB
    have hcond : c.count = ((beginB c i).P ++ allB.flatMap (fun b => (kids b).pairs (w ++ [b]))).length ∧ 4 < c.count ∧ c.key.length ≤ 65535 := by
      rw [← hpr, ← hcnt, hc]
      exact ⟨rfl, by show (4 : Int) < ((BT.node own kids).count : Int); have := hW.2.2; omega, hW.1⟩
    rw [if_pos hcond, ← hpr]
    congr 1
    show i + 1 + _ = i + (1 + sumB _)
    unfold sumB
    omega
/-- all that is read -/
noncomputable def readAll (l : List Cel) : RD := if l = [] then { ok := true } else if (readB (l.length + 1) l 0 []).ok = true ∧ (readB (l.length + 1) l 0 []).next = l.length then readB (l.length + 1) l 0 [] else {}
theorem readAll_cells {t : BT} (h : t.Wf []) : (readAll (t.cells [])).ok = true ∧ (readAll (t.cells [])).P = t.pairs [] := by
  by_cases hn : t = .nil
  · subst hn; exact ⟨rfl, rfl⟩
  · obtain ⟨c, m, hc, _⟩ := BT.cells_key [] hn
    obtain ⟨d, hd⟩ := readB_cells t (f := (t.cells []).length + 1) (l := t.cells []) (i := 0) (rest := []) hn h (by simp) (by omega)
    unfold readAll
    rw [if_neg (by rw [hc]; simp), hd]
    rw [if_pos ⟨rfl, by show 0 + t.size = _; rw [BT.cells_len]; omega⟩]
    exact ⟨rfl, rfl⟩
end Go.Proofs.Ytaloblomncjgkaa.X
