/- What is read of a burst trie's own cells is the trie's pairs. No program in it. -/
import Derived.Test.YtaloblomncjgkaaKrd
namespace Go.Proofs.Ytaloblomncjgkaa.X
open Go
set_option linter.unusedVariables false
set_option linter.unusedSimpArgs false
set_option maxRecDepth 10000
attribute [local irreducible] allB
theorem drop_head {α : Type} {l m : List α} {i : Nat} {a : α} (h : l.drop i = a :: m) : l[i]? = some a ∧ l.drop (i + 1) = m := by
  have h1 : (l.drop i)[0]? = some a := by rw [h]; rfl
  rw [List.getElem?_drop, Nat.add_zero] at h1
  refine ⟨h1, ?_⟩
  rw [← List.drop_drop, h]
  rfl
theorem drop_more {α : Type} {l a m : List α} {i n : Nat} (h : l.drop i = a ++ m) (hn : a.length = n) : l.drop (i + n) = m := by
  rw [← List.drop_drop, h, ← hn]
  simp
namespace BT
theorem cells_key {t : BT} (w : Bytes) (h : t ≠ .nil) : ∃ c m, t.cells w = c :: m ∧ c.key = w := by
  cases t with
  | nil => exact absurd rfl h
  | shelf ps => exact ⟨_, _, rfl, rfl⟩
  | node own kids => exact ⟨_, _, rfl, rfl⟩
def isKid (t : BT) : Nat := match t with | nil => 0 | _ => 1
theorem isKid_one {t : BT} (h : t ≠ .nil) : t.isKid = 1 := by cases t <;> first | rfl | exact absurd rfl h
end BT
/-- the children that are left -/
theorem kidsB_cells {kids : UInt8 → BT} {l : List Cel} {w : Bytes} {rd : Nat → Bytes → RD} {rest : List Cel} {i0 : Nat}
    (ih : ∀ (b : UInt8) (i : Nat) (rest : List Cel), kids b ≠ .nil → i0 < i → l.drop i = (kids b).cells (w ++ [b]) ++ rest → ∃ d, rd i (w ++ [b]) = ⟨(kids b).pairs (w ++ [b]), i + (kids b).size, d, true⟩) :
    ∀ (bs : List UInt8) (r : RD) (last : Int), bs.Pairwise (· < ·) → (∀ b ∈ bs, last < (b.toNat : Int)) → r.ok = true → i0 < r.next → l.drop r.next = (bs.flatMap fun b => (kids b).cells (w ++ [b])) ++ rest →
      ∃ d, kidsB rd l w (bs.map fun b => (kids b).isKid).sum r last = some ⟨r.P ++ bs.flatMap (fun b => (kids b).pairs (w ++ [b])), r.next + (bs.map fun b => (kids b).size).sum, d, true⟩ := by
  intro bs
  induction bs with
  | nil =>
    intro r last _ _ ho _ _
    refine ⟨r.deep, ?_⟩
    cases r
    simp only at ho
    subst ho
    simp [kidsB]
  | cons b bs ihb =>
    intro r last hp hl ho hi hd
    rw [List.pairwise_cons] at hp
    by_cases hk : kids b = .nil
    · simp only [List.map_cons, List.sum_cons, List.flatMap_cons, hk] at hd ⊢
      obtain ⟨d, h⟩ := ihb r last hp.2 (fun c hc => hl c (List.mem_cons_of_mem _ hc)) ho hi hd
      refine ⟨d, ?_⟩
      show kidsB rd l w (0 + _) r last = some ⟨r.P ++ ([] ++ _), r.next + (0 + _), d, true⟩
      rw [Nat.zero_add, List.nil_append, Nat.zero_add]
      exact h
    · simp only [List.map_cons, List.sum_cons, List.flatMap_cons] at hd ⊢
      rw [List.append_assoc] at hd
      obtain ⟨d1, h1⟩ := ih b r.next _ hk hi hd
      obtain ⟨c, m, hc, hck⟩ := BT.cells_key (w ++ [b]) hk
      have hd2 := hd
      rw [hc, List.cons_append] at hd2
      have hget := (drop_head hd2).1
      have hdm := drop_more hd (BT.cells_len _ _)
      rw [BT.isKid_one hk, Nat.add_comm 1]
      unfold kidsB
      rw [hget]
      have hgb : c.key.getD w.length 0 = b := by rw [hck]; simp [List.getD_eq_getElem?_getD]
      have hlen : c.key.length = w.length + 1 := by rw [hck]; simp
      simp only
      rw [hgb, if_pos ⟨hlen, hl b (List.mem_cons_self ..)⟩, h1]
      simp only [if_true]
      obtain ⟨d, h⟩ := ihb ⟨r.P ++ (kids b).pairs (w ++ [b]), r.next + (kids b).size, max r.deep d1, true⟩ b.toNat hp.2 (fun c hc => by
        have := hp.1 c hc
        rw [UInt8.lt_iff_toNat_lt] at this
        omega) rfl (by show i0 < r.next + _; omega) hdm
      refine ⟨d, ?_⟩
      rw [h]
      simp only [List.append_assoc, Nat.add_assoc]
theorem longs_no {l : List Pr} (h : ∀ p ∈ l, p.1.length ≤ 65535) : longs l = false := by
  unfold longs
  rw [List.any_eq_false]
  intro p hp
  have := h p hp
  simp
  omega
theorem readB_cells : ∀ (t : BT) {w : Bytes} {f : Nat} {l : List Cel} {i : Nat} {rest : List Cel}, t ≠ .nil → t.Wf w → l.drop i = t.cells w ++ rest → l.length < i + f → ∃ d, readB f l i w = ⟨t.pairs w, i + t.size, d, true⟩ := by
  intro t
  induction t with
  | nil => intro w f l i rest h; exact absurd rfl h
  | shelf ps =>
    intro w f l i rest _ hW hd hf
    have hget := (drop_head (hd : l.drop i = _ :: rest)).1
    have hlt := (List.getElem?_eq_some_iff.1 hget).1
    obtain ⟨f', rfl⟩ : ∃ f', f = f' + 1 := ⟨f - 1, by omega⟩
    refine ⟨1, ?_⟩
    unfold readB
    rw [hget]
    simp only
    rw [if_pos ⟨rfl, rfl, rfl⟩, if_true]
    have : okB { kind := 11, count := (ps.length : Int), kids := ps.length, key := w, pairs := ps } w = true := by
      unfold okB
      rw [Bool.and_eq_true]
      refine ⟨okS_yes ⟨rfl, rfl, List.length_pos_iff.2 hW.2.1, hW.2.2, rfl, rfl, hW.1.rise, longs_no hW.1.may⟩, ?_⟩
      rw [List.all_eq_true]
      exact fun p hp => hW.1.beg p hp
    rw [this]
    rfl
  | node own kids ih =>
    intro w f l i rest _ hW hd hf
    have hhd := drop_head (hd : l.drop i = _ :: ((allB.flatMap fun b => (kids b).cells (w ++ [b])) ++ rest))
    obtain ⟨hget, hdr⟩ := hhd
    have hlt := (List.getElem?_eq_some_iff.1 hget).1
    obtain ⟨f', rfl⟩ : ∃ f', f = f' + 1 := ⟨f - 1, by omega⟩
    obtain ⟨c, hc⟩ : ∃ c : Cel, c = { kind := 10, count := ((BT.node own kids).count : Int), kids := (BT.kidsN kids : Int), full := own.isSome, val := own.getD 0, key := w } := ⟨_, rfl⟩
    rw [← hc] at hget
    have hsum : (allB.map fun b => (kids b).isKid).sum = BT.kidsN kids := rfl
    have h256 : BT.kidsN kids ≤ 256 := by
      have h1 : BT.kidsN kids ≤ sumB fun _ => 1 := sumB_le fun b => by show (match kids b with | .nil => 0 | _ => 1) ≤ 1; cases kids b <;> simp
      have h2 : sumB (fun _ => 1) = 256 := by
        have h3 : ∀ l : List UInt8, (l.map fun _ => (1 : Nat)).sum = l.length := fun l => by
          induction l with
          | nil => rfl
          | cons a l ih => rw [List.map_cons, List.sum_cons, ih, List.length_cons]; omega
        show (allB.map fun _ => (1 : Nat)).sum = 256
        rw [h3]
        unfold allB
        rw [List.length_map, List.length_range]
      omega
    obtain ⟨d, h⟩ := kidsB_cells (kids := kids) (l := l) (w := w) (rd := readB f' l) (rest := rest) (i0 := i) (fun b j rest' hb hj hdj => ih b hb (hW.2.1 b) hdj (by omega)) allB (beginB c i) (-1) BT.allB_rise (fun b _ => by omega) rfl (Nat.lt_succ_self i) hdr
    rw [hsum] at h
    have hpr : (BT.node own kids).pairs w = (beginB c i).P ++ allB.flatMap (fun b => (kids b).pairs (w ++ [b])) := by
      show BT.ownP own w ++ _ = _
      congr 1
      rw [hc]
      unfold beginB BT.ownP
      cases own <;> rfl
    have hcnt : (BT.node own kids).count = ((BT.node own kids).pairs w).length := BT.count_pairs _ w
    have hN : okN c := by
      rw [hc]
      refine ⟨rfl, rfl, ?_, Int.natCast_nonneg _⟩
      cases own with
      | none => exact .inr rfl
      | some v => exact .inl rfl
    refine ⟨IntKind.i64.wrap (d + 1), ?_⟩
    unfold readB
    rw [hget]
    simp only
    have hk : ¬ c.kind = 11 := by rw [hc]; show ¬ (10 : Int) = 11; omega
    rw [if_pos ⟨by rw [hc], by rw [hc], by rw [hc]⟩, if_neg hk, if_pos hN]
    unfold nodeB
    have hmin : (min c.kids 257).toNat = BT.kidsN kids := by rw [hc]; show (min (BT.kidsN kids : Int) 257).toNat = _; omega
    rw [hmin, h]
    simp only
    unfold endB
    have hcond : c.count = ((beginB c i).P ++ allB.flatMap (fun b => (kids b).pairs (w ++ [b]))).length ∧ 4 < c.count ∧ c.key.length ≤ 65535 := by
      rw [← hpr, ← hcnt, hc]
      exact ⟨rfl, by show (4 : Int) < ((BT.node own kids).count : Int); have := hW.2.2; omega, hW.1⟩
    rw [if_pos hcond, ← hpr]
    congr 1
    show i + 1 + _ = i + (1 + sumB _)
    unfold sumB
    omega
/-- all that is read -/
noncomputable def readAll (l : List Cel) : RD := if l = [] then { ok := true } else if (readB (l.length + 1) l 0 []).ok = true ∧ (readB (l.length + 1) l 0 []).next = l.length then readB (l.length + 1) l 0 [] else {}
theorem readAll_cells {t : BT} (h : t.Wf []) : (readAll (t.cells [])).ok = true ∧ (readAll (t.cells [])).P = t.pairs [] := by
  by_cases hn : t = .nil
  · subst hn; exact ⟨rfl, rfl⟩
  · obtain ⟨c, m, hc, _⟩ := BT.cells_key [] hn
    obtain ⟨d, hd⟩ := readB_cells t (f := (t.cells []).length + 1) (l := t.cells []) (i := 0) (rest := []) hn h (by simp) (by omega)
    unfold readAll
    rw [if_neg (by rw [hc]; simp), hd]
    rw [if_pos ⟨rfl, by show 0 + t.size = _; rw [BT.cells_len]; omega⟩]
    exact ⟨rfl, rfl⟩
end Go.Proofs.Ytaloblomncjgkaa.X
