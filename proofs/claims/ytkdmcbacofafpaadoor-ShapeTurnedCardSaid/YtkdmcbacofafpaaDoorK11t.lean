/- Ternary trees of pairs that rise: their cells, and what is read of these. No program in it. -/
import Derived.Test.YtkdmcbacofafpaaDoorK11w
namespace Go.Proofs.YtkdmcbacofafpaaDoor.X
open Go
set_option linter.unusedVariables false
set_option linter.unusedSimpArgs false
set_option maxRecDepth 10000

inductive TT where
  | nil
  | node (b : UInt8) (own : Option Int) (lo mid hi : TT)
namespace TT
def isT : TT → Nat
  | nil => 0
  | node .. => 1
def size : TT → Nat
  | nil => 0
  | node _ _ lo mid hi => 1 + (lo.size + mid.size + hi.size)
def deep : TT → Nat
  | nil => 0
  | node _ _ lo mid hi => max (max lo.deep mid.deep) hi.deep + 1
def ownP (own : Option Int) (w : Bytes) : List Pr := match own with
  | some v => [(w, v)]
  | none => []
def pairs : TT → Bytes → List Pr
  | nil, _ => []
  | node b own lo mid hi, w => lo.pairs w ++ ownP own (w ++ [b]) ++ mid.pairs (w ++ [b]) ++ hi.pairs w
def count : TT → Nat
  | nil => 0
  | node _ own lo mid hi => lo.count + (if own.isSome then 1 else 0) + mid.count + hi.count
def cell (n : Nat) (b : UInt8) (own : Option Int) (lo mid hi : TT) : Cel := { kind := 4, at_ := n, byte := b, kids := ((lo.isT + 2 * mid.isT + 4 * hi.isT : Nat) : Int), count := ((lo.count + (if own.isSome then 1 else 0) + mid.count + hi.count : Nat) : Int), full := own.isSome, val := own.getD 0 }
def cells : TT → Nat → List Cel
  | nil, _ => []
  | node b own lo mid hi, n => cell n b own lo mid hi :: (lo.cells n ++ mid.cells (n + 1) ++ hi.cells n)
def Wf : TT → Bytes → Int → Int → Prop
  | nil, _, _, _ => True
  | node b own lo mid hi, w, l, h => l < (b.toNat : Int) ∧ (b.toNat : Int) < h ∧ w.length < 65535 ∧ (own = none → mid ≠ nil) ∧ lo.Wf w l b.toNat ∧ mid.Wf (w ++ [b]) (-1) 256 ∧ hi.Wf w b.toNat h
theorem count_pairs : ∀ (t : TT) (w : Bytes), t.count = (t.pairs w).length := by
  intro t
  induction t with
  | nil => intro w; rfl
  | node b own lo mid hi i1 i2 i3 =>
    intro w
    simp only [count, pairs, List.length_append, ← i1, ← i2, ← i3]
    cases own <;> rfl
theorem cells_len : ∀ (t : TT) (n : Nat), (t.cells n).length = t.size := by
  intro t
  induction t with
  | nil => intro n; rfl
  | node b own lo mid hi i1 i2 i3 =>
    intro n
    simp only [cells, size, List.length_cons, List.length_append, i1, i2, i3]
    omega
theorem isT_nil {t : TT} : t.isT = 0 ↔ t = nil := by cases t <;> simp [isT]
theorem isT_le (t : TT) : t.isT ≤ 1 := by cases t <;> simp [isT]
theorem rdT_cells : ∀ (t : TT) {w : Bytes} {lo hi : Int} {f : Nat} {l : List Cel} {i : Nat} {rest : List Cel}, t ≠ nil → t.Wf w lo hi → l.drop i = t.cells w.length ++ rest → l.length < i + f → rdT f l i w lo hi = some ⟨t.pairs w, i + t.size, t.deep⟩ := by
  intro t
  induction t with
  | nil => intro w lo hi f l i rest h; exact absurd rfl h
  | node b own L M R iL iM iR =>
    intro w lo hi f l i rest _ hW hd hf
    obtain ⟨hget, hdr⟩ := drop_head' (show l.drop i = _ :: ((L.cells w.length ++ M.cells (w.length + 1) ++ R.cells w.length) ++ rest) from hd)
    have hlt := (List.getElem?_eq_some_iff.1 hget).1
    obtain ⟨f', rfl⟩ : ∃ f', f = f' + 1 := ⟨f - 1, by omega⟩
    obtain ⟨h1, h2, h3, h4, wL, wM, wR⟩ := hW
    rw [List.append_assoc, List.append_assoc] at hdr
    have hdM := drop_more' hdr (cells_len L w.length)
    have hdR := drop_more' hdM (cells_len M (w.length + 1))
    have bL := isT_le L; have bM := isT_le M; have bR := isT_le R
    have hT : TernC (cell w.length b own L M R) w lo hi := ⟨rfl, h1, h2, rfl, rfl, rfl, ⟨Int.natCast_nonneg _, by show ((L.isT + 2 * M.isT + 4 * R.isT : Nat) : Int) ≤ 7; omega⟩, by
      cases own with
      | some v => exact .inl rfl
      | none =>
        refine .inr ⟨rfl, ?_⟩
        have : M.isT ≠ 0 := fun e => h4 rfl (isT_nil.1 e)
        show ((L.isT + 2 * M.isT + 4 * R.isT : Nat) : Int) / 2 % 2 = 1
        omega, h3⟩
    rw [rdT_some hget, if_pos hT]
    have step : ∀ (t : TT) (w' : Bytes) (P : List Pr) (n d : Nat) (o : Option PT), (t ≠ nil → o = some ⟨t.pairs w', n + t.size, t.deep⟩) → (if t.isT = 0 then some (⟨P, n, d⟩ : PT) else stepT ⟨P, n, d⟩ o) = some ⟨P ++ t.pairs w', n + t.size, max d t.deep⟩ := fun t w' P n d o ho => by
      cases t with
      | nil => rw [if_pos (by rfl)]; simp [pairs, size, deep]
      | node => rw [if_neg (by simp [isT]), ho (by simp)]; rfl
    have ek : (cell w.length b own L M R).kids = ((L.isT + 2 * M.isT + 4 * R.isT : Nat) : Int) := rfl
    have eL : lowT (fun n => rdT f' l n w lo (cell w.length b own L M R).byte.toNat) (cell w.length b own L M R) ⟨[], i + 1, 0⟩ = some ⟨[] ++ L.pairs w, i + 1 + L.size, max 0 L.deep⟩ := by
      rw [← step L w [] (i + 1) 0 (rdT f' l (i + 1) w lo b.toNat) (fun hn => iL hn wL hdr (by omega))]
      unfold lowT
      rw [ek]
      by_cases e : L.isT = 0
      · rw [if_neg (by omega), if_pos e]
      · rw [if_pos (by omega), if_neg e]
        rfl
    rw [eL]
    simp only [Option.bind_some, List.nil_append]
    have eO : ownT (cell w.length b own L M R) (w ++ [(cell w.length b own L M R).byte]) ⟨L.pairs w, i + 1 + L.size, max 0 L.deep⟩ = ⟨L.pairs w ++ ownP own (w ++ [b]), i + 1 + L.size, max 0 L.deep⟩ := by
      unfold ownT ownP
      cases own with
      | some v => rfl
      | none => show (⟨L.pairs w, _, _⟩ : PT) = ⟨L.pairs w ++ [], _, _⟩; rw [List.append_nil]
    rw [eO]
    have eM : ∀ P n d, l.drop n = M.cells (w.length + 1) ++ (R.cells w.length ++ rest) → i < n → midT (fun n => rdT f' l n (w ++ [(cell w.length b own L M R).byte]) (-1) 256) (cell w.length b own L M R) ⟨P, n, d⟩ = some ⟨P ++ M.pairs (w ++ [b]), n + M.size, max d M.deep⟩ := fun P n d hdn hin => by
      rw [← step M (w ++ [b]) P n d (rdT f' l n (w ++ [b]) (-1) 256) (fun hn => iM hn wM (by rw [List.length_append]; exact hdn) (by omega))]
      unfold midT
      rw [ek]
      by_cases e : M.isT = 0
      · rw [if_neg (by omega), if_pos e]
      · rw [if_pos (by omega), if_neg e]
        rfl
    rw [eM _ _ _ hdM (by omega)]
    simp only [Option.bind_some]
    have eR : ∀ P n d, l.drop n = R.cells w.length ++ rest → i < n → topT (fun n => rdT f' l n w (cell w.length b own L M R).byte.toNat hi) (cell w.length b own L M R) ⟨P, n, d⟩ = some ⟨P ++ R.pairs w, n + R.size, max d R.deep⟩ := fun P n d hdn hin => by
      rw [← step R w P n d (rdT f' l n w b.toNat hi) (fun hn => iR hn wR hdn (by omega))]
      unfold topT
      rw [ek]
      by_cases e : R.isT = 0
      · rw [if_neg (by omega), if_pos e]
      · rw [if_pos (by omega), if_neg e]
        rfl
    rw [eR _ _ _ hdR (by omega)]
    simp only [Option.bind_some]
    unfold endT
    have hc := count_pairs (node b own L M R) w
    rw [if_pos (by show (((node b own L M R).count : Nat) : Int) = _; rw [hc]; rfl)]
    simp only [size, deep, pairs]
    congr 2
    all_goals omega
end TT

def ownV (n : Nat) (l : List Pr) : Option Int := match l with
  | [] => none
  | p :: _ => if p.1.length = n then some p.2 else none
def offOwn (n : Nat) (l : List Pr) : List Pr := if (ownV n l).isSome then l.drop 1 else l
def ternT : Nat → List Pr → Nat → TT
  | 0, _, _ => .nil
  | f + 1, l, n => if l = [] then .nil else
    .node (midB n l) (ownV (n + 1) ((l.drop (lowN n (midB n l) l)).take (eqN n (midB n l) (l.drop (lowN n (midB n l) l)))))
      (ternT f (l.take (lowN n (midB n l) l)) n)
      (ternT f (offOwn (n + 1) ((l.drop (lowN n (midB n l) l)).take (eqN n (midB n l) (l.drop (lowN n (midB n l) l))))) (n + 1))
      (ternT f ((l.drop (lowN n (midB n l) l)).drop (eqN n (midB n l) (l.drop (lowN n (midB n l) l)))) n)
/-! its pairs, and that it is one -/
def wt (n : Nat) (l : List Pr) : Nat := (l.map fun p => p.1.length - n).sum
theorem wt_app (n : Nat) (l m : List Pr) : wt n (l ++ m) = wt n l + wt n m := by unfold wt; rw [List.map_append, List.sum_append]
theorem wt_len {n : Nat} {l : List Pr} (h : Long n l) : l.length ≤ wt n l := by
  unfold wt
  induction l with
  | nil => simp
  | cons p l ih =>
    rw [List.map_cons, List.sum_cons, List.length_cons]
    have h1 := h p (by simp)
    have h2 := ih (fun q hq => h q (List.mem_cons_of_mem _ hq))
    omega
theorem wt_succ {n : Nat} {l : List Pr} (h : Long (n + 1) l) : wt (n + 1) l + l.length = wt n l := by
  unfold wt
  induction l with
  | nil => rfl
  | cons p l ih =>
    rw [List.map_cons, List.sum_cons, List.map_cons, List.sum_cons, List.length_cons]
    have h1 := h p (by simp)
    have h2 := ih (fun q hq => h q (List.mem_cons_of_mem _ hq))
    omega
theorem way_head {w : Bytes} {p : Pr} {l : List Pr} (h : Way w (p :: l)) : ∀ r ∈ l, w.length < r.1.length := fun r hr => by
  obtain ⟨h1, _⟩ := rises_cons.1 h.rise
  have hb := h.beg r (by simp [hr])
  have hp := h.beg p (by simp)
  have hle := beg_le hb
  rcases Nat.lt_or_eq_of_le hle with hlt | he
  · exact hlt
  · exfalso
    have e1 := beg_all hb he.symm
    have h2 := h1 r hr
    obtain ⟨m, hm⟩ := begins_iff.1 hp
    rw [e1, hm] at h2
    have h3 := cmp_anti w (w ++ m)
    have h4 := cmp_pre w m
    split at h4 <;> omega
theorem own_off {w : Bytes} {l : List Pr} (h : Way w l) : TT.ownP (ownV w.length l) w ++ offOwn w.length l = l ∧ Long w.length (offOwn w.length l) ∧ List.Sublist (offOwn w.length l) l := by
  cases l with
  | nil => exact ⟨rfl, (fun p hp => by cases hp), List.Sublist.refl _⟩
  | cons p l =>
    have hh := way_head h
    by_cases hp : p.1.length = w.length
    · have e : ownV w.length (p :: l) = some p.2 := if_pos hp
      have e1 := beg_all (h.beg p (by simp)) hp
      unfold offOwn
      rw [e]
      refine ⟨?_, hh, List.sublist_cons_self _ _⟩
      show (w, p.2) :: l = p :: l
      rw [← e1]
    · have e : ownV w.length (p :: l) = none := if_neg hp
      unfold offOwn
      rw [e]
      refine ⟨rfl, fun q hq => ?_, List.Sublist.refl _⟩
      rcases List.mem_cons.1 hq with rfl | hq
      · have := beg_le (h.beg q (by simp)); omega
      · exact hh q hq
theorem ternT_nil (f n : Nat) : ternT f [] n = .nil := by cases f <;> rfl
theorem ternT_ok : ∀ (f : Nat) {w : Bytes} {l : List Pr} {lo hi : Int}, Way w l → Long w.length l → (∀ p ∈ l, lo < ((byK w.length p).toNat : Int) ∧ ((byK w.length p).toNat : Int) < hi) → wt w.length l ≤ f →
    (ternT f l w.length).pairs w = l ∧ (ternT f l w.length).Wf w lo hi ∧ (l ≠ [] → ternT f l w.length ≠ .nil) := by
  intro f
  induction f with
  | zero =>
    intro w l lo hi hW hL hb hf
    have := wt_len hL
    have : l = [] := List.length_eq_zero_iff.1 (by omega)
    subst this
    exact ⟨rfl, trivial, fun h => absurd rfl h⟩
  | succ f ih =>
    intro w l lo hi hW hL hb hf
    by_cases hne : l = []
    · subst hne
      exact ⟨rfl, trivial, fun h => absurd rfl h⟩
    · have hpos : 0 < l.length := List.length_pos_iff.2 hne
      obtain ⟨x, hx⟩ : ∃ x, l[l.length / 2]? = some x := ⟨_, List.getElem?_eq_getElem (by omega)⟩
      have hxm := List.mem_of_getElem? hx
      have eb : midB w.length l = byK w.length x := by unfold midB; rw [List.getD_eq_getElem?_getD, hx]; rfl
      have e0 : ternT (f + 1) l w.length = .node (midB w.length l) (ownV (w.length + 1) ((l.drop (lowN w.length (midB w.length l) l)).take (eqN w.length (midB w.length l) (l.drop (lowN w.length (midB w.length l) l)))))
          (ternT f (l.take (lowN w.length (midB w.length l) l)) w.length)
          (ternT f (offOwn (w.length + 1) ((l.drop (lowN w.length (midB w.length l) l)).take (eqN w.length (midB w.length l) (l.drop (lowN w.length (midB w.length l) l))))) (w.length + 1))
          (ternT f ((l.drop (lowN w.length (midB w.length l) l)).drop (eqN w.length (midB w.length l) (l.drop (lowN w.length (midB w.length l) l)))) w.length) := by
        conv => lhs; unfold ternT
        rw [if_neg hne]
      rw [e0, eb]
      generalize hbb : byK w.length x = b
      generalize hi' : lowN w.length b l = i
      have hil : i ≤ l.length := by rw [← hi']; exact lowN_le _ _ _
      have hij : i ≤ l.length / 2 := by
        rcases Nat.lt_or_ge (l.length / 2) i with h | h
        · exfalso
          have h1 : x ∈ l.take (lowN w.length b l) := List.mem_of_getElem? (i := l.length / 2) (by rw [hi', List.getElem?_take, if_pos h]; exact hx)
          have := lowN_mem h1
          rw [hbb] at this
          exact UInt8.lt_irrefl _ this
        · exact h
      obtain ⟨y, hy⟩ : ∃ y, l[i]? = some y := ⟨_, List.getElem?_eq_getElem (by omega)⟩
      have hyb : byK w.length y = b := by
        have h1 : ¬ byK w.length y < b := lowN_end (by rw [hi']; exact hy)
        have h2 := hW.mono hL hij hy hx
        rw [hbb] at h2
        rcases UInt8.lt_or_eq_of_le h2 with h | h
        · exact absurd h h1
        · exact h
      have sA := List.take_sublist i l
      have sD := List.drop_sublist i l
      have hdr : l.drop i = y :: l.drop (i + 1) := by
        rw [List.drop_eq_getElem_cons (by omega)]
        have := List.getElem?_eq_getElem (l := l) (i := i) (by omega)
        rw [hy] at this
        injection this with this
        rw [← this]
      generalize hm : eqN w.length b (l.drop i) = m
      have hm0 : 0 < m := by rw [← hm, hdr, ← hyb]; exact eqN_pos
      have sM := (List.take_sublist m (l.drop i)).trans sD
      have sR := (List.drop_sublist m (l.drop i)).trans sD
      have hsplit : l = l.take i ++ ((l.drop i).take m ++ (l.drop i).drop m) := by rw [List.take_append_drop, List.take_append_drop]
      have hinM : ∀ q ∈ (l.drop i).take m, byK w.length q = b := fun q hq => eqN_mem (by rw [hm]; exact hq)
      have hinR : ∀ q ∈ (l.drop i).drop m, b < byK w.length q := fun q hq => by
        obtain ⟨j, hj⟩ := List.mem_iff_getElem?.1 hq
        rw [List.getElem?_drop] at hj
        have hkl : m < (l.drop i).length := by have := (List.getElem?_eq_some_iff.1 hj).1; omega
        obtain ⟨r, hr⟩ : ∃ r, (l.drop i)[m]? = some r := ⟨_, List.getElem?_eq_getElem hkl⟩
        have h1 := (hW.sub sD).mono (hL.sub sD) (Nat.zero_le m) (show (l.drop i)[0]? = some y by rw [hdr]; rfl) hr
        have h2 := (hW.sub sD).mono (hL.sub sD) (Nat.le_add_right m j) hr hj
        have h3 : byK w.length r ≠ b := eqN_end (by rw [hm]; exact hr)
        rw [hyb] at h1
        have h4 : b < byK w.length r := by
          rcases UInt8.lt_or_eq_of_le h1 with h | h
          · exact h
          · exact absurd h.symm h3
        exact UInt8.lt_of_lt_of_le h4 h2
      have hinA : ∀ q ∈ l.take i, byK w.length q < b := fun q hq => lowN_mem (by rw [hi']; exact hq)
      have hMne : (l.drop i).take m ≠ [] := fun e => by
        have := congrArg List.length e
        rw [List.length_take, List.length_drop] at this
        simp at this
        omega
      have hWM : Way (w ++ [b]) ((l.drop i).take m) := (hW.sub sM).down rfl (hL.sub sM) hinM
      have hlen1 : (w ++ [b]).length = w.length + 1 := by simp
      obtain ⟨o1, o2, o3⟩ := own_off hWM
      rw [hlen1] at o1 o2 o3
      have hwM : Long w.length ((l.drop i).take m) := hL.sub sM
      have hlt : ∀ {c d : UInt8}, c < d → ((c.toNat : Int)) < (d.toNat : Int) := fun h => by have := UInt8.lt_iff_toNat_lt.1 h; omega
      have hsum : wt w.length l = wt w.length (l.take i) + (wt w.length ((l.drop i).take m) + wt w.length ((l.drop i).drop m)) := by
        conv => lhs; rw [hsplit]
        rw [wt_app, wt_app]
      have hMw := wt_len hwM
      have hMp : 0 < ((l.drop i).take m).length := List.length_pos_iff.2 hMne
      obtain ⟨a1, a2, _⟩ := ih (l := l.take i) (lo := lo) (hi := (b.toNat : Int)) (hW.sub sA) (hL.sub sA) (fun q hq => ⟨(hb q (sA.subset hq)).1, hlt (hinA q hq)⟩) (by omega)
      obtain ⟨c1, c2, _⟩ := ih (l := (l.drop i).drop m) (lo := (b.toNat : Int)) (hi := hi) (hW.sub sR) (hL.sub sR) (fun q hq => ⟨hlt (hinR q hq), (hb q (sR.subset hq)).2⟩) (by omega)
      have hX : wt (w.length + 1) (offOwn (w.length + 1) ((l.drop i).take m)) ≤ f := by
        have h1 := wt_succ o2
        have h2 : wt w.length (offOwn (w.length + 1) ((l.drop i).take m)) ≤ wt w.length ((l.drop i).take m) := by
          have := congrArg (wt w.length) o1
          rw [wt_app] at this
          omega
        rcases Nat.eq_zero_or_pos (offOwn (w.length + 1) ((l.drop i).take m)).length with h | h
        · rw [List.length_eq_zero_iff.1 h]; exact Nat.zero_le _
        · omega
      obtain ⟨m1, m2, m3⟩ := ih (w := w ++ [b]) (l := offOwn (w.length + 1) ((l.drop i).take m)) (lo := -1) (hi := 256) (hWM.sub o3) (by rw [hlen1]; exact o2) (fun q hq => by
        have := (byK (w ++ [b]).length q).toNat_lt
        omega) (by rw [hlen1]; exact hX)
      rw [hlen1] at m1 m2 m3
      refine ⟨?_, ⟨?_, ?_, ?_, fun hn => ?_, a2, m2, c2⟩, fun _ => by simp⟩
      · show (ternT f _ w.length).pairs w ++ TT.ownP _ (w ++ [b]) ++ (ternT f _ (w.length + 1)).pairs (w ++ [b]) ++ (ternT f _ w.length).pairs w = l
        rw [a1, m1, c1, List.append_assoc, List.append_assoc, ← List.append_assoc (TT.ownP _ _), o1, ← hsplit]
      · rw [← hbb]; exact (hb x hxm).1
      · rw [← hbb]; exact (hb x hxm).2
      · have h1 := hL x hxm; have h2 := hW.may x hxm; omega
      · refine m3 fun e => hMne ?_
        rw [← o1, hn, e]
        rfl
/-- cells of a ternary tree of pairs -/
def ternOf (l : List Pr) : List Cel := (match ownV 0 l with
  | some v => [{ kind := 3, count := 1, val := v }]
  | none => []) ++ (ternT (wt 0 (offOwn 0 l)) (offOwn 0 l) 0).cells 0
def ternD (l : List Pr) : Nat := max (if (ownV 0 l).isSome then 1 else 0) (ternT (wt 0 (offOwn 0 l)) (offOwn 0 l) 0).deep
theorem rdTs_ternOf {l : List Pr} (hr : rises l = true) (hne : l ≠ []) (hm : ∀ p ∈ l, p.1.length ≤ 65535) : rdTs (ternOf l) = some ⟨l, (ternOf l).length, ternD l⟩ := by
  have hW : Way [] l := ⟨hr, fun p _ => begins_nil _, hm⟩
  obtain ⟨o1, o2, o3⟩ := own_off hW
  have o1 : TT.ownP (ownV 0 l) [] ++ offOwn 0 l = l := o1
  have o2 : Long 0 (offOwn 0 l) := o2
  have o3 : List.Sublist (offOwn 0 l) l := o3
  obtain ⟨t1, t2, t3⟩ := ternT_ok (wt 0 (offOwn 0 l)) (w := []) (l := offOwn 0 l) (lo := -1) (hi := 256) (hW.sub o3) o2 (fun q hq => by
    have := (byK ([] : Bytes).length q).toNat_lt
    omega) (Nat.le_refl _)
  have t1 : (ternT (wt 0 (offOwn 0 l)) (offOwn 0 l) 0).pairs [] = offOwn 0 l := t1
  have t3 : offOwn 0 l ≠ [] → ternT (wt 0 (offOwn 0 l)) (offOwn 0 l) 0 ≠ .nil := t3
  unfold ternOf ternD
  generalize ht : ternT (wt 0 (offOwn 0 l)) (offOwn 0 l) 0 = t at t1 t2 t3 ⊢
  have t2 : t.Wf [] (-1) 256 := t2
  cases ho : ownV 0 l with
  | none =>
    rw [ho] at o1
    have o1 : offOwn 0 l = l := o1
    have htn : t ≠ .nil := t3 (by rw [o1]; exact hne)
    have h := TT.rdT_cells t (w := []) (lo := -1) (hi := 256) (f := (t.cells 0).length + 1) (l := t.cells 0) (i := 0) (rest := []) htn t2 (by simp) (by omega)
    rw [o1] at t1
    have hk : ∃ c m, t.cells 0 = c :: m ∧ c.kind = 4 := by
      cases t with
      | nil => exact absurd rfl htn
      | node => exact ⟨_, _, rfl, rfl⟩
    obtain ⟨c, m, hc, hk4⟩ := hk
    show rdTs ([] ++ t.cells 0) = some ⟨l, ([] ++ t.cells 0).length, max 0 t.deep⟩
    rw [List.nil_append]
    have e : rdTs (t.cells 0) = rdT ((t.cells 0).length + 1) (t.cells 0) 0 [] (-1) 256 := by
      unfold rdTs
      rw [hc]
      simp only [List.getElem?_cons_zero]
      rw [if_neg (by rw [hk4]; omega)]
    rw [e, h, t1, TT.cells_len, Nat.zero_add, Nat.zero_max]
  | some v =>
    rw [ho] at o1
    have o1 : ([], v) :: offOwn 0 l = l := o1
    show rdTs (([{ kind := 3, count := 1, val := v }] : List Cel) ++ t.cells 0) = some ⟨l, (([{ kind := 3, count := 1, val := v }] : List Cel) ++ t.cells 0).length, max 1 t.deep⟩
    rw [List.singleton_append]
    unfold rdTs
    simp only [List.getElem?_cons_zero, and_self, if_true]
    by_cases htn : t = .nil
    · subst htn
      have : offOwn 0 l = [] := by rw [← t1]; rfl
      rw [this] at o1
      rw [if_pos (by rfl), ← o1]
      rfl
    · have hlen : ¬ (({ kind := 3, count := 1, val := v } : Cel) :: t.cells 0).length = 1 := by
        rw [List.length_cons, TT.cells_len]
        have : 0 < t.size := by cases t with
          | nil => exact absurd rfl htn
          | node => simp only [TT.size]; omega
        omega
      have h := TT.rdT_cells t (w := []) (lo := -1) (hi := 256) (f := (({ kind := 3, count := 1, val := v } : Cel) :: t.cells 0).length + 1) (l := ({ kind := 3, count := 1, val := v } : Cel) :: t.cells 0) (i := 1) (rest := []) htn t2 (by simp) (by omega)
      rw [if_neg hlen, h, t1]
      show some (⟨[([], v)] ++ offOwn 0 l, 1 + t.size, max 1 t.deep⟩ : PT) = _
      rw [List.singleton_append, o1, List.length_cons, TT.cells_len, Nat.add_comm]
/-! other values -/
theorem ownV_map {g : Pr → Pr} (hg : ∀ p, (g p).1 = p.1) (n : Nat) (l : List Pr) : (ownV n (l.map g)).isSome = (ownV n l).isSome := by
  cases l with
  | nil => rfl
  | cons p l =>
    show (if (g p).1.length = n then some (g p).2 else none).isSome = (if p.1.length = n then some p.2 else none).isSome
    rw [hg]
    split <;> rfl
theorem offOwn_map {g : Pr → Pr} (hg : ∀ p, (g p).1 = p.1) (n : Nat) (l : List Pr) : offOwn n (l.map g) = (offOwn n l).map g := by
  unfold offOwn
  rw [ownV_map hg]
  split
  · rw [List.map_drop]
  · rfl
theorem wt_map {g : Pr → Pr} (hg : ∀ p, (g p).1 = p.1) (n : Nat) (l : List Pr) : wt n (l.map g) = wt n l := by
  unfold wt
  rw [List.map_map]
  congr 2
  funext p
  show (g p).1.length - n = _
  rw [hg]
theorem midB_map {g : Pr → Pr} (hg : ∀ p, (g p).1 = p.1) (n : Nat) {l : List Pr} (hne : l ≠ []) : midB n (l.map g) = midB n l := by
  have hpos : 0 < l.length := List.length_pos_iff.2 hne
  obtain ⟨x, hx⟩ : ∃ x, l[l.length / 2]? = some x := ⟨_, List.getElem?_eq_getElem (by omega)⟩
  unfold midB
  rw [List.getD_eq_getElem?_getD, List.getD_eq_getElem?_getD, List.length_map, List.getElem?_map, hx]
  show (g x).1.getD n 0 = x.1.getD n 0
  rw [hg]
theorem ternT_map {g : Pr → Pr} (hg : ∀ p, (g p).1 = p.1) : ∀ (f n : Nat) (l : List Pr), (ternT f (l.map g) n).size = (ternT f l n).size ∧ (ternT f (l.map g) n).deep = (ternT f l n).deep := by
  intro f
  induction f with
  | zero => intro n l; exact ⟨rfl, rfl⟩
  | succ f ih =>
    intro n l
    by_cases hne : l = []
    · subst hne; exact ⟨rfl, rfl⟩
    · unfold ternT
      rw [if_neg hne, if_neg (by simpa using hne), midB_map hg n hne, lowN_map hg, ← List.map_drop, eqN_map hg, ← List.map_take, ← List.map_take, ← List.map_drop, offOwn_map hg]
      simp only [TT.size, TT.deep, ih, and_self]
theorem ternOf_map {g : Pr → Pr} (hg : ∀ p, (g p).1 = p.1) (l : List Pr) : (ternOf (l.map g)).length = (ternOf l).length ∧ ternD (l.map g) = ternD l := by
  have h := ternT_map hg (wt 0 (offOwn 0 l)) 0 (offOwn 0 l)
  have ho := ownV_map hg 0 l
  unfold ternOf ternD
  rw [offOwn_map hg, wt_map hg, List.length_append, List.length_append, TT.cells_len, TT.cells_len, h.1, h.2, ho]
  refine ⟨?_, rfl⟩
  congr 1
  cases h1 : ownV 0 l <;> cases h2 : ownV 0 (l.map g) <;> rw [h1, h2] at ho <;> first | rfl | cases ho
end Go.Proofs.YtkdmcbacofafpaaDoor.X
