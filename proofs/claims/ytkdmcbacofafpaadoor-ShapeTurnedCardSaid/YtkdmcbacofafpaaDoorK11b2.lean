/- Burst tries of pairs that rise: their cells, and what is read of these. No program in it. -/
import Derived.Test.YtkdmcbacofafpaaDoorK11r
namespace Go.Proofs.YtkdmcbacofafpaaDoor.X
open Go
set_option linter.unusedVariables false
set_option linter.unusedSimpArgs false
set_option maxRecDepth 10000

def runsB (l : List Pr) (n : Nat) : List (List Pr) := runs n (offOwn n l)
def shelfB (l : List Pr) (n : Nat) : Cel := { kind := 11, count := (l.length : Int), kids := (l.length : Int), key := (firstK l).take n, pairs := l }
def nodeBu (l : List Pr) (n : Nat) : Cel := { kind := 10, count := (l.length : Int), kids := ((runsB l n).length : Int), full := (ownV n l).isSome, val := (ownV n l).getD 0, key := (firstK l).take n }
def burstOf : Nat → List Pr → Nat → List Cel
  | 0, _, _ => []
  | f + 1, l, n => if l = [] then [] else if l.length ≤ 8 then [shelfB l n] else nodeBu l n :: (runsB l n).flatMap (fun g => burstOf f g (n + 1))
def burstD : Nat → List Pr → Nat → Nat
  | 0, _, _ => 0
  | f + 1, l, n => if l = [] then 0 else if l.length ≤ 8 then 1 else (runsB l n).foldl (fun d g => max d (burstD f g (n + 1))) 0 + 1
theorem burstOf_node {f : Nat} {l : List Pr} {n : Nat} (hne : l ≠ []) (h8 : ¬ l.length ≤ 8) : burstOf (f + 1) l n = nodeBu l n :: (runsB l n).flatMap (fun g => burstOf f g (n + 1)) := by
  show (if l = [] then [] else if l.length ≤ 8 then _ else _) = _
  rw [if_neg hne, if_neg h8]
theorem burstD_node {f : Nat} {l : List Pr} {n : Nat} (hne : l ≠ []) (h8 : ¬ l.length ≤ 8) : burstD (f + 1) l n = (runsB l n).foldl (fun d g => max d (burstD f g (n + 1))) 0 + 1 := by
  show (if l = [] then 0 else if l.length ≤ 8 then _ else _) = _
  rw [if_neg hne, if_neg h8]
theorem first_take {w : Bytes} {l : List Pr} (hW : Way w l) (hne : l ≠ []) : (firstK l).take w.length = w := by
  cases l with
  | nil => exact absurd rfl hne
  | cons p l =>
    obtain ⟨m, hm⟩ := begins_iff.1 (hW.beg p (by simp))
    rw [firstK_cons, hm, List.take_left]
theorem burstOf_key {w : Bytes} {l : List Pr} (f : Nat) (hW : Way w l) (hne : l ≠ []) : ∃ c m, burstOf (f + 1) l w.length = c :: m ∧ c.key = w := by
  unfold burstOf
  rw [if_neg hne]
  split
  · exact ⟨_, _, rfl, first_take hW hne⟩
  · exact ⟨_, _, rfl, first_take hW hne⟩
theorem burstD_le : ∀ (f : Nat) (l : List Pr) (n : Nat), burstD f l n ≤ f := by
  intro f
  induction f with
  | zero => intro l n; exact Nat.le_refl _
  | succ f ih =>
    intro l n
    unfold burstD
    split
    · exact Nat.zero_le _
    · split
      · omega
      · have := fold_le (gs := runsB l n) (dp := fun g => burstD f g (n + 1)) (n := f) (d := 0) (fun g _ => ih g (n + 1)) (Nat.zero_le _)
        omega
/-- the children that are left -/
theorem kidsB_runs {w : Bytes} {cs : List Cel} {rd : Nat → Bytes → RD} {of : List Pr → List Cel} {dp : List Pr → Nat} {rest : List Cel} {i0 : Nat} : ∀ (gs : List (List Pr)) (r : RD) (d0 : Nat) (last : Int), r.ok = true → r.deep = (d0 : Int) →
    (∀ g ∈ gs, ∃ b : UInt8, last < (b.toNat : Int) ∧ g ≠ [] ∧ Way (w ++ [b]) g ∧ (∃ c m, of g = c :: m ∧ c.key = w ++ [b]) ∧ ∀ i rest', i0 < i → cs.drop i = of g ++ rest' → rd i (w ++ [b]) = ⟨g, i + (of g).length, (dp g : Int), true⟩) →
    (gs.Pairwise fun g h => ∀ p ∈ g, ∀ q ∈ h, byK w.length p < byK w.length q) → i0 < r.next → cs.drop r.next = gs.flatMap of ++ rest →
    kidsB rd cs w gs.length r last = some ⟨r.P ++ gs.flatten, r.next + (gs.flatMap of).length, ((gs.foldl (fun d g => max d (dp g)) d0 : Nat) : Int), true⟩ := by
  intro gs
  induction gs with
  | nil =>
    intro r d0 last ho hd0 _ _ _ _
    cases r
    simp only at ho hd0
    subst ho hd0
    simp [kidsB]
  | cons g gs ih =>
    intro r d0 last ho hd0 h hp hi hd
    rw [List.pairwise_cons] at hp
    obtain ⟨b, hb, hne, hW, ⟨c, m, hc, hck⟩, hrd⟩ := h g (by simp)
    rw [List.flatMap_cons, List.append_assoc] at hd
    have h1 := hrd r.next _ hi hd
    have hd2 := hd
    rw [hc, List.cons_append] at hd2
    have hget := (drop_head' hd2).1
    have hdm := drop_more' hd rfl
    have hkl : c.key.length = w.length + 1 := by rw [hck]; simp
    have hgb : c.key.getD w.length 0 = b := by
      rw [hck, List.getD_eq_getElem?_getD, List.getElem?_append_right (Nat.le_refl _)]
      simp
    rw [List.length_cons]
    unfold kidsB
    rw [hget]
    simp only
    rw [hgb, if_pos ⟨hkl, hb⟩, h1]
    simp only [if_true]
    have hx : 0 < (of g).length := by rw [hc]; simp
    rw [ih ⟨r.P ++ g, r.next + (of g).length, max r.deep (dp g), true⟩ (max d0 (dp g)) b.toNat rfl (by show max r.deep _ = _; rw [hd0]; omega) (fun k hk => by
      obtain ⟨b', _, hne', hW', hrest⟩ := h k (List.mem_cons_of_mem _ hk)
      refine ⟨b', ?_, hne', hW', hrest⟩
      obtain ⟨p, hp1⟩ := List.exists_mem_of_ne_nil g hne
      obtain ⟨q, hq1⟩ := List.exists_mem_of_ne_nil k hne'
      have hlt := hp.1 k hk p hp1 q hq1
      have eb : ∀ (w : Bytes) (b : UInt8) (p : Pr), begins p.1 (w ++ [b]) = true → byK w.length p = b := fun w b p hp => by
        obtain ⟨m, hm'⟩ := begins_iff.1 hp
        unfold byK
        rw [hm', List.append_assoc, List.getD_eq_getElem?_getD, List.getElem?_append_right (Nat.le_refl _)]
        simp
      rw [eb w b p (hW.beg p hp1), eb w b' q (hW'.beg q hq1)] at hlt
      have := UInt8.lt_iff_toNat_lt.1 hlt
      omega) hp.2 (by show i0 < r.next + _; omega) hdm]
    simp only [List.flatten_cons, List.flatMap_cons, List.foldl_cons, List.append_assoc, List.length_append, Nat.add_assoc]
theorem readB_burstOf : ∀ (f : Nat) {l : List Pr} {w : Bytes} {g : Nat} {cs : List Cel} {i : Nat} {rest : List Cel}, f ≤ 1000000 → l ≠ [] → l.length ≤ 256 → (∀ p ∈ l, p.1.length < w.length + f) → Way w l → cs.drop i = burstOf f l w.length ++ rest → cs.length < i + g →
    readB g cs i w = ⟨l, i + (burstOf f l w.length).length, (burstD f l w.length : Int), true⟩ := by
  intro f
  induction f with
  | zero =>
    intro l w g cs i rest _ hne _ hf hW
    obtain ⟨p, hp⟩ := List.exists_mem_of_ne_nil l hne
    have h1 := beg_le (hW.beg p hp)
    have h2 := hf p hp
    omega
  | succ f ih =>
    intro l w g cs i rest hfm hne h256 hf hW hd hg
    have hft := first_take hW hne
    have hwl : w.length ≤ 65535 := by
      obtain ⟨p, hp⟩ := List.exists_mem_of_ne_nil l hne
      have h1 := beg_le (hW.beg p hp)
      have h3 := hW.may p hp
      omega
    by_cases h8 : l.length ≤ 8
    · have e : burstOf (f + 1) l w.length = [shelfB l w.length] := by unfold burstOf; rw [if_neg hne, if_pos h8]
      have e2 : burstD (f + 1) l w.length = 1 := by unfold burstD; rw [if_neg hne, if_pos h8]
      rw [e] at hd ⊢
      rw [e2]
      have hget := (drop_head' (hd : cs.drop i = _ :: rest)).1
      have hlt := (List.getElem?_eq_some_iff.1 hget).1
      obtain ⟨g', rfl⟩ : ∃ g', g = g' + 1 := ⟨g - 1, by omega⟩
      unfold readB
      rw [hget]
      simp only
      have hC : okC (shelfB l w.length) w := ⟨hft, rfl, rfl⟩
      have hkd : (shelfB l w.length).kind = 11 := rfl
      have hok : okB (shelfB l w.length) w = true := by
        unfold okB
        rw [Bool.and_eq_true]
        refine ⟨okS_yes ⟨rfl, rfl, List.length_pos_iff.2 hne, h8, rfl, rfl, hW.rise, ?_⟩, ?_⟩
        · show longs l = false
          unfold longs
          rw [List.any_eq_false]
          intro p hp
          have := hW.may p hp
          simp
          omega
        · rw [List.all_eq_true]
          exact fun p hp => hW.beg p hp
      rw [if_pos hC, if_pos hkd, hok]
      rfl
    · obtain ⟨o1, o2, o3⟩ := own_off hW
      have hk : RunsOk w (offOwn w.length l) (runsB l w.length) (-1) := runs_ok _ (Nat.le_refl _) (hW.sub o3) o2 (fun p _ => by omega)
      have e := burstOf_node (f := f) (n := w.length) hne h8
      have e2 := burstD_node (f := f) (n := w.length) hne h8
      rw [e] at hd ⊢
      have hdle := burstD_le (f + 1) l w.length
      rw [e2] at hdle ⊢
      obtain ⟨hget, hdr⟩ := drop_head' (show cs.drop i = _ :: ((runsB l w.length).flatMap (fun g => burstOf f g (w.length + 1)) ++ rest) from hd)
      have hlt := (List.getElem?_eq_some_iff.1 hget).1
      obtain ⟨g', rfl⟩ : ∃ g', g = g' + 1 := ⟨g - 1, by omega⟩
      have hrl : (runsB l w.length).length ≤ 256 := by
        have h1 := flat_le (gs := runsB l w.length) (fun g hg => by obtain ⟨b, _, h, _⟩ := hk.one g hg; exact h)
        rw [hk.flat] at h1
        have := o3.length_le
        omega
      unfold readB
      rw [hget]
      simp only
      have hC : okC (nodeBu l w.length) w := ⟨hft, rfl, rfl⟩
      have hkd : ¬ (nodeBu l w.length).kind = 11 := by show ¬ (10 : Int) = 11; omega
      have hN : okN (nodeBu l w.length) := by
        refine ⟨rfl, rfl, ?_, Int.natCast_nonneg _⟩
        unfold nodeBu
        cases ownV w.length l with
        | some v => exact .inl rfl
        | none => exact .inr rfl
      rw [if_pos hC, if_neg hkd, if_pos hN]
      unfold nodeB
      have hmin : (min (nodeBu l w.length).kids 257).toNat = (runsB l w.length).length := by show (min ((runsB l w.length).length : Int) 257).toNat = _; omega
      have hP : (beginB (nodeBu l w.length) i).P = TT.ownP (ownV w.length l) w := by
        show (if (ownV w.length l).isSome = true then [((firstK l).take w.length, (ownV w.length l).getD 0)] else []) = _
        rw [hft]
        cases ownV w.length l <;> rfl
      rw [hmin, kidsB_runs (w := w) (cs := cs) (rd := readB g' cs) (of := fun g => burstOf f g (w.length + 1)) (dp := fun g => burstD f g (w.length + 1)) (rest := rest) (i0 := i) (runsB l w.length) (beginB (nodeBu l w.length) i) 0 (-1) rfl rfl (fun k hkm => by
        obtain ⟨b, b1, b2, b3, b4⟩ := hk.one k hkm
        have hsub : ∀ p ∈ k, p ∈ l := fun p hp => o3.subset (by rw [← hk.flat]; exact List.mem_flatten.2 ⟨k, hkm, hp⟩)
        have hl1 : (w ++ [b]).length = w.length + 1 := by simp
        obtain ⟨f', rfl⟩ : ∃ f', f = f' + 1 := ⟨f - 1, by
          obtain ⟨p, hp⟩ := List.exists_mem_of_ne_nil k b2
          have h1 := beg_le (b3.beg p hp)
          have h2 := hf p (hsub p hp)
          omega⟩
        refine ⟨b, b1, b2, b3, ?_, fun j rest' hj hdj => ?_⟩
        · have := burstOf_key f' b3 b2
          rw [hl1] at this
          exact this
        · have := ih (l := k) (w := w ++ [b]) (g := g') (cs := cs) (i := j) (rest := rest') (by omega) b2 (by have := o3.length_le; omega) (fun p hp => by have := hf p (hsub p hp); omega) b3 (by rw [hl1]; exact hdj) (by omega)
          rw [hl1] at this
          exact this) hk.rise (Nat.lt_succ_self i) hdr]
      simp only
      rw [hP, hk.flat, o1]
      have hcond : (nodeBu l w.length).count = (l.length : Int) ∧ 4 < (nodeBu l w.length).count ∧ (nodeBu l w.length).key.length ≤ 65535 := ⟨rfl, by show (4 : Int) < (l.length : Int); omega, by show ((firstK l).take w.length).length ≤ _; rw [hft]; exact hwl⟩
      unfold endB
      rw [if_pos hcond]
      have ew : IntKind.i64.wrap ((((runsB l w.length).foldl (fun d g => max d (burstD f g (w.length + 1))) 0 : Nat) : Int) + 1) = (((runsB l w.length).foldl (fun d g => max d (burstD f g (w.length + 1))) 0 + 1 : Nat) : Int) := by
        rw [wrap_i64 (by omega) (by omega)]
        omega
      show (⟨l, _, IntKind.i64.wrap _, true⟩ : RD) = _
      rw [ew]
      congr 1
      show i + 1 + _ = i + (_ :: _).length
      rw [List.length_cons]
      omega
theorem burstD_way : ∀ (f : Nat) {l : List Pr} {w : Bytes} {M : Nat}, l ≠ [] → Way w l → (∀ p ∈ l, p.1.length ≤ M) → burstD f l w.length + w.length ≤ M + 1 := by
  intro f
  induction f with
  | zero =>
    intro l w M hne hW hM
    obtain ⟨p, hp⟩ := List.exists_mem_of_ne_nil l hne
    have h1 := beg_le (hW.beg p hp)
    have h2 := hM p hp
    show 0 + w.length ≤ _
    omega
  | succ f ih =>
    intro l w M hne hW hM
    have hM0 : w.length ≤ M := by
      obtain ⟨p, hp⟩ := List.exists_mem_of_ne_nil l hne
      have h1 := beg_le (hW.beg p hp)
      have h3 := hM p hp
      omega
    obtain ⟨o1, o2, o3⟩ := own_off hW
    have hk : RunsOk w (offOwn w.length l) (runsB l w.length) (-1) := runs_ok _ (Nat.le_refl _) (hW.sub o3) o2 (fun p _ => by omega)
    unfold burstD
    rw [if_neg hne]
    split
    · omega
    · have := fold_le (gs := runsB l w.length) (dp := fun g => burstD f g (w.length + 1)) (n := M - w.length) (d := 0) (fun k hkm => by
        obtain ⟨b, b1, b2, b3, b4⟩ := hk.one k hkm
        have hsub : ∀ p ∈ k, p ∈ l := fun p hp => o3.subset (by rw [← hk.flat]; exact List.mem_flatten.2 ⟨k, hkm, hp⟩)
        have hl1 : (w ++ [b]).length = w.length + 1 := by simp
        have := ih (l := k) (w := w ++ [b]) b2 b3 (fun p hp => hM p (hsub p hp))
        rw [hl1] at this
        show burstD f k (w.length + 1) ≤ _
        omega) (Nat.zero_le _)
      omega
/-! other values -/
theorem runsB_map {g : Pr → Pr} (hg : ∀ p, (g p).1 = p.1) (l : List Pr) (n : Nat) : runsB (l.map g) n = (runsB l n).map (List.map g) := by
  unfold runsB
  rw [offOwn_map hg]
  exact runs_map hg _ _ _ (Nat.le_refl _)
theorem burstOf_map {g : Pr → Pr} (hg : ∀ p, (g p).1 = p.1) : ∀ (f : Nat) (l : List Pr) (n : Nat), (burstOf f (l.map g) n).length = (burstOf f l n).length ∧ burstD f (l.map g) n = burstD f l n := by
  intro f
  induction f with
  | zero => intro l n; exact ⟨rfl, rfl⟩
  | succ f ih =>
    intro l n
    unfold burstOf burstD
    by_cases hne : l = []
    · subst hne; exact ⟨rfl, rfl⟩
    · have hne' : ¬ l.map g = [] := by simpa using hne
      rw [if_neg hne, if_neg hne, if_neg hne', if_neg hne', List.length_map]
      by_cases h8 : l.length ≤ 8
      · rw [if_pos h8, if_pos h8, if_pos h8, if_pos h8]; exact ⟨rfl, rfl⟩
      · rw [if_neg h8, if_neg h8, if_neg h8, if_neg h8, runsB_map hg, List.length_cons, List.length_cons, flat_map_len (of := fun g => burstOf f g (n + 1)) (fun l => (ih l (n + 1)).1), fold_map (dp := fun g => burstD f g (n + 1)) (fun l => (ih l (n + 1)).2)]
        exact ⟨rfl, rfl⟩
end Go.Proofs.YtkdmcbacofafpaaDoor.X
