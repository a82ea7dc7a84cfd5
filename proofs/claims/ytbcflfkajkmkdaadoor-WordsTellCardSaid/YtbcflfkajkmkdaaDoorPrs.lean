/- Rows of pairs: what the statements share of them, and the plain map of chapter 7: what these functions answer. -/
import Derived.Test.YtbcflfkajkmkdaaDoorBys
import Derived.Test.YtbcflfkajkmkdaaDoorKr
namespace Go.Proofs.YtbcflfkajkmkdaaDoor.X
open Go Go.Proofs
set_option linter.unusedVariables false
set_option maxRecDepth 10000

theorem getp {α : Type} {l : List α} {j : Nat} (h : j < l.length) : ∃ p, l[j]? = some p := ⟨_, List.getElem?_eq_getElem h⟩

theorem law_GreatPairs {va : Value} {l : List Pr} {H : Heap} (m g : Nat) (hm : m ≤ 100000) (hA : Ps H va l) : Ret Tryd.prog 17 [va, .int .i64 (m : Int), .int .i64 (g : Int)] H (fun v H' => H = H' ∧ ∃ b, v = .bool b ∧ (b = false → l.length ≤ m ∧ ∀ p ∈ l, p.1.length ≤ g)) := by
  have sA := hA.sl
  have cA := sA.cap
  refine ret_of Tryd.func17 rfl rfl rfl rfl ?_
  intro w0
  refine zrun ?_ ?_
  refine cw_loop (fun j : Nat => [(0, va), (1, .int .i64 (m : Int)), (2, .int .i64 (g : Int)), (7, .int .i64 j)]) (fun j H' => H = H' ∧ j ≤ l.length ∧ ∀ p ∈ l.take j, p.1.length ≤ g) (fun j => l.length - j) 0 ⟨rfl, rfl, rfl, rfl, trivial⟩ ⟨rfl, by omega, by simp⟩ ?_
  rintro j _ ⟨rfl, hj, ht⟩
  refine zrun ?_ ?_
  refine x_split 12 rfl (fun h1 => ?_) (fun h1 => ?_) <;> (try simp at h1)
  · refine zrun ?_ ?_
    refine cw_cond rfl (fun h2 => ?_) (fun h2 => ?_) <;> (try simp at h2)
    · obtain ⟨p, hp⟩ := getp (l := l) h1
      obtain ⟨k, h3, h4, h5⟩ := hA.at_ j p hp
      have sK := h5.sl
      refine zrun ?_ ?_
      refine x_load rfl rfl (hpmt (h3)) rfl trivial ?_
      refine zrun ?_ ?_
      refine cw_cond rfl (fun h6 => ?_) (fun h6 => ?_) <;> (try simp at h6)
      · refine zrun ?_ ?_
        exact cw_ret1 rfl rfl ⟨rfl, true, rfl, fun h => by cases h⟩
      · refine zrun ?_ ?_
        refine nw_round (j + 1) ⟨rfl, rfl, rfl, rfl, trivial⟩ ⟨rfl, by omega, ?_⟩ (by omega)
        intro r hr
        rw [List.take_add_one, hp, List.mem_append] at hr
        rcases hr with hr | hr
        · exact ht r hr
        · simp at hr
          subst hr
          omega
    · refine zrun ?_ ?_
      exact cw_ret1 rfl rfl ⟨rfl, _, rfl, fun h => absurd h (by simp; omega)⟩
  · have hje : j = l.length := by omega
    subst hje
    rw [List.take_length] at ht
    refine zrun ?_ ?_
    exact cw_ret1 rfl rfl ⟨rfl, _, rfl, fun h => ⟨by simpa using h, ht⟩⟩

theorem law_SamePairs {va vb : Value} {la lb : List Pr} {H : Heap} (hA : Ps H va la) (hB : Ps H vb lb) : Ret Tryd.prog 29 [va, vb] H (fun v H' => H = H' ∧ v = .bool (decide (la = lb))) := by
  have sA := hA.sl
  have sB := hB.sl
  have cA := sA.cap
  have cB := sB.cap
  refine ret_of Tryd.func29 rfl rfl rfl rfl ?_
  intro w0
  refine zrun ?_ ?_
  refine cw_cond rfl (fun h1 => ?_) (fun h1 => ?_) <;> (try simp at h1)
  · refine zrun ?_ ?_
    refine cw_ret1 rfl rfl ⟨rfl, ?_⟩
    (try show Value.int _ _ = Value.int _ _); (try show Value.bool _ = Value.bool _)
    have : la ≠ lb := by intro e; subst e; exact h1 rfl
    simp [this]
  · refine zrun ?_ ?_
    refine cw_loop (fun j : Nat => [(0, va), (1, vb), (5, .int .i64 j)]) (fun j H' => H = H' ∧ j ≤ la.length ∧ la.take j = lb.take j) (fun j => la.length - j) 0 ⟨rfl, rfl, rfl, trivial⟩ ⟨rfl, by omega, by simp⟩ ?_
    rintro j _ ⟨rfl, hj, ht⟩
    refine zrun ?_ ?_
    refine cw_cond rfl (fun h2 => ?_) (fun h2 => ?_) <;> (try simp at h2)
    · obtain ⟨x, hx⟩ := getp (l := la) h2
      obtain ⟨y, hy⟩ := getp (l := lb) (j := j) (by omega)
      obtain ⟨ka, a1, a2, a3⟩ := hA.at_ j x hx
      obtain ⟨kb, b1, b2, b3⟩ := hB.at_ j y hy
      refine zrun ?_ ?_
      refine cw_quiet mixed (by kernel_rfl) ?_
      refine zrun ?_ ?_
      refine x_load rfl rfl (hpmt (a2)) rfl trivial ?_
      refine zrun ?_ ?_
      refine x_load rfl rfl (hpmt (b2)) rfl trivial ?_
      refine zrun ?_ ?_
      refine x_split 28 rfl (fun h3 => ?_) (fun h3 => ?_) <;> (try simp at h3)
      · refine zrun ?_ ?_
        refine cw_ret1 rfl rfl ⟨rfl, ?_⟩
        (try show Value.int _ _ = Value.int _ _); (try show Value.bool _ = Value.bool _)
        have : la ≠ lb := by
          intro e
          subst e
          rw [hx] at hy
          cases hy
          exact h3 rfl
        simp [this]
      · refine zrun ?_ ?_
        refine x_load rfl rfl (hpmt (a1)) rfl trivial ?_
        refine zrun ?_ ?_
        refine x_load rfl rfl (hpmt (b1)) rfl trivial ?_
        refine x_callq rfl rfl rfl ((law_SameBytes a3 b3).mono fun _ _ h => ⟨h.1.symm, h.2⟩) ?_
        refine zrun ?_ ?_
        refine cw_cond rfl (fun h4 => ?_) (fun h4 => ?_) <;> simp at h4
        · refine zrun ?_ ?_
          refine cw_ret1 rfl rfl ⟨rfl, ?_⟩
          (try show Value.int _ _ = Value.int _ _); (try show Value.bool _ = Value.bool _)
          have : la ≠ lb := by
            intro e
            subst e
            rw [hx] at hy
            cases hy
            exact h4 rfl
          simp [this]
        · refine zrun ?_ ?_
          refine nw_round (j + 1) ⟨rfl, rfl, rfl, trivial⟩ ⟨rfl, by omega, ?_⟩ (by omega)
          rw [List.take_add_one, List.take_add_one, ht, hx, hy, Prod.ext h4 h3]
    · have : j = la.length := by omega
      subst this
      refine zrun ?_ ?_
      refine cw_ret1 rfl rfl ⟨rfl, ?_⟩
      (try show Value.int _ _ = Value.int _ _); (try show Value.bool _ = Value.bool _)
      have : la = lb := by
        have h := ht
        rw [List.take_length, List.take_of_length_le (by omega)] at h
        exact h
      simp [this]

/-- what was answered is written over: only what stands from block B on is touched -/
theorem law_OverPairs {B : Nat} {va : Value} {l : List Pr} {H : Heap} (hA : Po B H va l) (hl : l.length ≤ 100000) (hk : ∀ p ∈ l, p.1.length ≤ 1000000) : Ret Tryd.prog 16 [va] H (fun v H' => v = .tuple #[] ∧ Keep (fun b => B ≤ b) H H') := by
  obtain ⟨q, hq, ho, hd⟩ := hA.row
  have hql := hq.len
  have sA := ho.sl
  have cA := sA.cap
  refine ret_of Tryd.func16 rfl rfl rfl rfl ?_
  intro w0
  refine zrun ?_ ?_
  refine cw_loop (fun s : Nat × List (Value × Int) => [(0, va), (2, .int .i64 s.1)]) (fun s H' => s.1 ≤ l.length ∧ Keep (fun b => B ≤ b) H H' ∧ s.2.length = l.length ∧ Own 2 H' va l.length (pcs s.2) ∧ ∀ (i : Nat) (x : Value × Int) (p : Pr), s.1 ≤ i → q[i]? = some x → l[i]? = some p → s.2[i]? = some x ∧ Own 1 H' x.1 p.1.length (bvs p.1)) (fun s => l.length - s.1) (0, q) ⟨rfl, rfl, trivial⟩ ⟨by omega, Keep.refl _ _, hql, ho, fun i x p _ hx hp => ⟨hx, (hq.at_ i x p hx hp).2.1⟩⟩ ?_
  rintro ⟨j, r⟩ H1 ⟨hj, hk1, hrl, hor, hor2⟩
  simp only at hj hrl hor hor2
  refine zrun ?_ ?_
  refine cw_cond rfl (fun h1 => ?_) (fun h1 => ?_) <;> (try simp at h1)
  · obtain ⟨x, hx⟩ := getp (l := q) (j := j) (by omega)
    obtain ⟨p, hp⟩ := getp (l := l) (j := j) (by omega)
    obtain ⟨hx1, hox⟩ := hor2 j x p (Nat.le_refl _) hx hp
    have hpl := hk p (List.mem_of_getElem? hp)
    obtain ⟨g1, g2⟩ := pcs_get r j x hx1
    have hc : cel H1 (sb va) (so va + j * 2) = some x.1 := by
      rw [hor.cels (j * 2) (by rw [pcs_length]; omega), ← g1, List.getElem?_eq_getElem]
    have hkj := (hq.at_ j x p hx hp).2.2
    refine zrun ?_ ?_
    refine x_load rfl rfl (hpmt (hc)) rfl trivial ?_
    refine x_call rfl rfl rfl trivial (law_OverBytes hox (by omega)) ?_
    rintro _ H2 ⟨rfl, hk2⟩
    refine ⟨trivial, ?_⟩
    have ho2 := hor.keep hk2 (fun _ e => (hkj e.2).2 e.1.symm)
    obtain ⟨z, hz1, hz2, hz3⟩ := ho2.stores j [.slice none 0 0, .int .u64 777] rfl (by omega) (by omega)
    refine zrun ?_ ?_
    refine x_build rfl rfl rfl (by simp [oneC, Value.oneCell']) rfl trivial ?_
    refine zrun ?_ ?_
    refine x_stores rfl rfl rfl rfl (by simp [oneC, Value.oneCell']) hz1 hz2 trivial ?_
    intro H3 hB3 hk3 hs3
    refine ⟨trivial, ?_⟩
    have ho3 := hz3 H3 hB3
    have hva : B ≤ sb va := hA.fresh (by omega)
    rw [putL_pcs r j (.slice none 0 0, 777) (by omega)] at ho3
    refine zrun ?_ ?_
    refine nw_round (j + 1, r.set j (.slice none 0 0, 777)) ⟨rfl, rfl, trivial⟩ ⟨by show j + 1 ≤ _; omega, (hk1.step hk2 (fun b _ e => by have := (hkj e.2).1; have := e.1; omega)).step hk3 (fun b _ e => by subst e; exact hva), by simp [hrl], ho3, ?_⟩ (by show l.length - (j + 1) < l.length - j; omega)
    intro i y p' hi hy hp'
    simp only at hi
    obtain ⟨e1, e2⟩ := hor2 i y p' (by omega) hy hp'
    refine ⟨by rw [List.getElem?_set_ne (by omega)]; exact e1, (e2.keep hk2 (fun hc e => ?_)).keep hk3 (fun hc e => ?_)⟩
    · exact hd i j y x hy hx (by omega) hc e.2 e.1
    · exact ((hq.at_ i y p' hy hp').2.2 hc).2 e
  · refine zrun ?_ ?_
    exact nw_end rfl ⟨rfl, hk1⟩
end Go.Proofs.YtbcflfkajkmkdaaDoor.X
