/- What chapter 11 reads of cells: how many pairs, how long their keys. No program in it. -/
import Derived.Test.YtkdmcbacofafpaaDoorR11e
namespace Go.Proofs.YtkdmcbacofafpaaDoor.X
open Go
set_option linter.unusedVariables false
set_option linter.unusedSimpArgs false
set_option maxRecDepth 10000

def Short (P : List Pr) : Prop := ∀ p ∈ P, p.1.length ≤ 65535
theorem Short.nil : Short [] := fun p hp => by cases hp
theorem Short.one {p : Pr} (h : p.1.length ≤ 65535) : Short [p] := fun q hq => by rw [List.mem_singleton.1 hq]; exact h
theorem Short.app {P Q : List Pr} (h : Short P) (h' : Short Q) : Short (P ++ Q) := fun p hp => (List.mem_append.1 hp).elim (h p) (h' p)
theorem rdT_short : ∀ (f : Nat) {l : List Cel} {i : Nat} {way : Bytes} {lo hi : Int} {x : PT}, rdT f l i way lo hi = some x → Short x.P := by
  intro f
  induction f with
  | zero => intro l i way lo hi x h; cases h
  | succ f ih =>
    intro l i way lo hi x h
    unfold rdT at h
    cases hc : l[i]? with
    | none => rw [hc] at h; cases h
    | some c =>
      rw [hc] at h
      simp only at h
      split at h
      · rename_i hT
        have step : ∀ {r r' : PT} {o : Option PT}, Short r.P → (∀ y, o = some y → Short y.P) → stepT r o = some r' → Short r'.P := fun {r r' o} hp ho e => by
          cases o with
          | none => cases e
          | some y => injection e with e; subst e; exact hp.app (ho y rfl)
        obtain ⟨r1, h1, h⟩ := Option.bind_eq_some_iff.1 h
        obtain ⟨r3, h3, h⟩ := Option.bind_eq_some_iff.1 h
        obtain ⟨r4, h4, h⟩ := Option.bind_eq_some_iff.1 h
        have p1 : Short r1.P := by
          unfold lowT at h1
          split at h1
          · exact step Short.nil (fun y hy => ih hy) h1
          · injection h1 with h1; subst h1; exact Short.nil
        have p2 : Short (ownT c (way ++ [c.byte]) r1).P := by
          unfold ownT
          split
          · exact p1.app (Short.one (by have := hT.way; simp; omega))
          · exact p1
        have p3 : Short r3.P := by
          unfold midT at h3
          split at h3
          · exact step p2 (fun y hy => ih hy) h3
          · injection h3 with h3; subst h3; exact p2
        have p4 : Short r4.P := by
          unfold topT at h4
          split at h4
          · exact step p3 (fun y hy => ih hy) h4
          · injection h4 with h4; subst h4; exact p3
        unfold endT at h
        split at h
        · injection h with h; subst h; exact p4
        · cases h
      · cases h
theorem begR_short {c : Cel} {i : Nat} (h : c.key.length ≤ 65535) : Short (begR c i).P := by
  show Short (if c.full then [(c.key, c.val)] else [])
  split
  · exact Short.one h
  · exact Short.nil
theorem kidsR_short {rd : Nat → Bytes → Option PT} {l : List Cel} {w : Bytes} (h : ∀ n v x, rd n v = some x → Short x.P) : ∀ (m : Nat) {r r' : PT} {last : Int}, Short r.P → kidsR rd l w m r last = some r' → Short r'.P := by
  intro m
  induction m with
  | zero => intro r r' last hp e; injection e with e; subst e; exact hp
  | succ m ih =>
    intro r r' last hp e
    unfold kidsR at e
    cases hd : l[r.next]? with
    | none => rw [hd] at e; cases e
    | some d =>
      rw [hd] at e
      simp only at e
      split at e
      · split at e
        · cases e
        · rename_i x hx
          exact ih (hp.app (h _ _ x hx)) e
      · cases e
theorem rdR_short : ∀ (f : Nat) {l : List Cel} {i : Nat} {way : Bytes} {x : PT}, rdR f l i way = some x → Short x.P := by
  intro f
  induction f with
  | zero => intro l i way x h; cases h
  | succ f ih =>
    intro l i way x h
    unfold rdR at h
    cases hc : l[i]? with
    | none => rw [hc] at h; cases h
    | some c =>
      rw [hc] at h
      simp only at h
      split at h
      · rename_i hb
        split at h
        · injection h with h; subst h; exact Short.one hb.2
        · split at h
          · obtain ⟨r, hr, h⟩ := Option.bind_eq_some_iff.1 h
            have p := kidsR_short (fun n v x hx => ih hx) _ (begR_short hb.2) hr
            unfold endT at h
            split at h
            · injection h with h; subst h; exact p
            · cases h
          · cases h
      · cases h
theorem kidsB_short {rd : Nat → Bytes → RD} {l : List Cel} {w : Bytes} (h : ∀ n v, Short (rd n v).P) : ∀ (m : Nat) {r r' : RD} {last : Int}, Short r.P → kidsB rd l w m r last = some r' → Short r'.P := by
  intro m
  induction m with
  | zero => intro r r' last hp e; injection e with e; subst e; exact hp
  | succ m ih =>
    intro r r' last hp e
    unfold kidsB at e
    cases hd : l[r.next]? with
    | none => rw [hd] at e; cases e
    | some d =>
      rw [hd] at e
      simp only at e
      split at e
      · split at e
        · exact ih (hp.app (h _ _)) e
        · cases e
      · cases e
theorem readB_short {l : List Cel} (hok : CelsOk l) : ∀ (f : Nat) (i : Nat) (w : Bytes), Short (readB f l i w).P := by
  intro f
  induction f with
  | zero => intro i w; exact Short.nil
  | succ f ih =>
    intro i w
    unfold readB
    cases hc : l[i]? with
    | none => exact Short.nil
    | some c =>
      have hm := List.mem_of_getElem? hc
      have hk := hok.key c hm
      simp only
      split
      · split
        · exact fun p hp => by have := hok.pair c hm p hp; omega
        · split
          · unfold nodeB
            split
            · exact Short.nil
            · rename_i r hr
              unfold endB
              split
              · refine (kidsB_short ih _ (r := beginB c i) ?_ hr : Short r.P)
                show Short (if c.full then [(c.key, c.val)] else [])
                split
                · exact Short.one (by show c.key.length ≤ _; omega)
                · exact Short.nil
              · exact Short.nil
          · exact Short.nil
      · exact Short.nil
theorem rdIn_short {tag : Int} {l : List Cel} {x : PT} (hok : CelsOk l) (h : rdIn tag l = some x) : Short x.P ∧ x.P.length ≤ manys l + l.length := by
  have hf : ∀ {i : Nat} {x : PT}, x.next ≤ l.length → x.P.length + i ≤ x.next → x.P.length ≤ manys l + l.length := fun h1 h2 => by omega
  unfold rdIn at h
  split at h
  · obtain ⟨g, gp, _, gk⟩ := rdC_good _ h
    exact ⟨gk, hf g.le gp⟩
  · split at h
    · refine ⟨?_, ?_⟩
      · unfold rdTs at h
        split at h
        · cases h
        · split at h
          · split at h
            · split at h
              · injection h with h; subst h; exact Short.one (Nat.zero_le _)
              · cases hx : rdT (l.length + 1) l 1 [] (-1) 256 with
                | none => rw [hx] at h; cases h
                | some y =>
                  rw [hx] at h
                  injection h with h
                  subst h
                  exact (Short.one (Nat.zero_le _)).app (rdT_short _ hx)
            · cases h
          · exact rdT_short _ h
      · obtain ⟨h1, h2, h3, h4⟩ := rdTs_good h
        exact hf (i := 0) h2 h4
    · split at h
      · obtain ⟨g, gp⟩ := rdR_good _ h
        exact ⟨rdR_short _ h, hf g.le gp⟩
      · unfold rdB at h
        split at h
        · injection h with h
          subst h
          exact ⟨readB_short hok _ _ _, by show (readB _ _ _ _).P.length ≤ _; have := readB_P (l.length + 1) l 0 []; omega⟩
        · cases h
theorem rdAll_short {tag : Int} {l : List Cel} (hok : CelsOk l) : Short ((rdAll tag l).getD {}).P ∧ ((rdAll tag l).getD {}).P.length ≤ manys l + l.length := by
  have hz : Short ({} : PT).P ∧ ({} : PT).P.length ≤ manys l + l.length := ⟨Short.nil, Nat.zero_le _⟩
  by_cases h1 : tag < 1 ∨ 4 < tag
  · unfold rdAll; rw [if_pos h1]; exact hz
  · by_cases h2 : l = []
    · unfold rdAll; rw [if_neg h1, if_pos h2]; exact hz
    · rw [rdAll_in h1 h2]
      cases h : rdIn tag l with
      | none => exact hz
      | some r =>
        have g := rdIn_short hok h
        show Short ((if r.next = l.length then some r else none).getD {}).P ∧ ((if r.next = l.length then some r else none).getD {}).P.length ≤ _
        split
        · exact g
        · exact hz
end Go.Proofs.YtkdmcbacofafpaaDoor.X
