/- The plain map of chapter 7: Drop, Select; what was answered is written over, and nothing else. -/
import Derived.Test.YtbcflfkajkmkdaaDoorPrs4
namespace Go.Proofs.YtbcflfkajkmkdaaDoor.X
open Go Go.Proofs
set_option linter.unusedVariables false
set_option maxRecDepth 10000
set_option maxHeartbeats 2000000

/-- a row of pairs of the call's own, all of it in blocks of S -/
structure PoS (S : Nat → Prop) (H : Heap) (v : Value) (l : List Pr) : Prop where
  row : ∃ q, Pk (fun k b => Own 1 H k b.length (bvs b) ∧ (0 < sc k → S (sb k) ∧ sb k ≠ sb v)) q l ∧ Own 2 H v l.length (pcs q) ∧ Dis q
  fresh : 0 < sc v → S (sb v)
theorem Po.toS {B : Nat} {H : Heap} {v : Value} {l : List Pr} (h : Po B H v l) : PoS (fun b => B ≤ b ∧ b < H.size) H v l := by
  obtain ⟨q, hk, ho, hd⟩ := h.row
  exact ⟨⟨q, hk.mono fun k b hb => ⟨hb.1, fun hc => ⟨⟨(hb.2 hc).1, hb.1.lt hc⟩, (hb.2 hc).2⟩⟩, ho, hd⟩, fun hc => ⟨h.fresh hc, ho.lt hc⟩⟩
theorem PoS.keep {S S' : Nat → Prop} {H H' : Heap} {v : Value} {l : List Pr} (h : PoS S H v l) (k : Keep S' H H') (hS : ∀ b, S b → ¬ S' b) : PoS S H' v l := by
  obtain ⟨q, hk, ho, hd⟩ := h.row
  exact ⟨⟨q, hk.mono fun _ _ hb => ⟨hb.1.keep k (fun hc => hS _ (hb.2 hc).1), hb.2⟩, ho.keep k (fun hc => hS _ (h.fresh hc)), hd⟩, h.fresh⟩
theorem PoS.ps {S : Nat → Prop} {H : Heap} {v : Value} {l : List Pr} (h : PoS S H v l) : Ps H v l := by
  obtain ⟨q, hk, ho, hd⟩ := h.row
  exact ⟨ho.sl, q, hk.mono fun _ _ hb => hb.1.bs, ho.cels⟩

theorem law_OverPairsS {S : Nat → Prop} {va : Value} {l : List Pr} {H : Heap} (hA : PoS S H va l) (hl : l.length ≤ 100000) (hk : ∀ p ∈ l, p.1.length ≤ 1000000) : Ret Tryd.prog 16 [va] H (fun v H' => v = .tuple #[] ∧ Keep S H H') := by
  obtain ⟨q, hq, ho, hd⟩ := hA.row
  have hql := hq.len
  have sA := ho.sl
  have cA := sA.cap
  refine ret_of Tryd.func16 rfl rfl rfl rfl ?_
  intro w0
  refine zrun ?_ ?_
  refine cw_loop (fun s : Nat × List (Value × Int) => [(0, va), (2, .int .i64 s.1)]) (fun s H' => s.1 ≤ l.length ∧ Keep S H H' ∧ s.2.length = l.length ∧ Own 2 H' va l.length (pcs s.2) ∧ ∀ (i : Nat) (x : Value × Int) (p : Pr), s.1 ≤ i → q[i]? = some x → l[i]? = some p → s.2[i]? = some x ∧ Own 1 H' x.1 p.1.length (bvs p.1)) (fun s => l.length - s.1) (0, q) ⟨rfl, rfl, trivial⟩ ⟨by omega, Keep.refl _ _, hql, ho, fun i x p _ hx hp => ⟨hx, (hq.at_ i x p hx hp).2.1⟩⟩ ?_
  rintro ⟨j, r⟩ H1 ⟨hj, hk1, hrl, hor, hor2⟩
  simp only at hj hrl hor hor2
  refine zrun ?_ ?_
  refine cw_cond rfl (fun h1 => ?_) (fun h1 => ?_) <;> (try simp at h1)
  · obtain ⟨x, hx⟩ := getp (l := q) (j := j) (by omega)
    obtain ⟨p, hp⟩ := getp (l := l) (j := j) (by omega)
    obtain ⟨hx1, hox⟩ := hor2 j x p (Nat.le_refl _) hx hp
    have hpl := hk p (List.mem_of_getElem? hp)
    obtain ⟨g1, g2⟩ := pcs_get r j x hx1
    have hc : cel H1 (sb va) (so va + j * 2) = some x.1 := by
      rw [hor.cels (j * 2) (by rw [pcs_length]; omega), ← g1, List.getElem?_eq_getElem]
    have hkj := (hq.at_ j x p hx hp).2.2
    refine zrun ?_ ?_
    refine x_load rfl rfl (hpmt (hc)) rfl trivial ?_
    refine x_call rfl rfl rfl trivial (law_OverBytes hox (by omega)) ?_
    rintro _ H2 ⟨rfl, hk2⟩
    refine ⟨trivial, ?_⟩
    have ho2 := hor.keep hk2 (fun _ e => (hkj e.2).2 e.1.symm)
    obtain ⟨z, hz1, hz2, hz3⟩ := ho2.stores j [.slice none 0 0, .int .u64 777] rfl (by omega) (by omega)
    refine zrun ?_ ?_
    refine x_build rfl rfl rfl (by simp [oneC, Value.oneCell']) rfl trivial ?_
    refine zrun ?_ ?_
    refine x_stores rfl rfl rfl rfl (by simp [oneC, Value.oneCell']) hz1 hz2 trivial ?_
    intro H3 hB3 hk3 hs3
    refine ⟨trivial, ?_⟩
    have ho3 := hz3 H3 hB3
    have hva : S (sb va) := hA.fresh (by omega)
    rw [putL_pcs r j (.slice none 0 0, 777) (by omega)] at ho3
    refine zrun ?_ ?_
    refine nw_round (j + 1, r.set j (.slice none 0 0, 777)) ⟨rfl, rfl, trivial⟩ ⟨by show j + 1 ≤ _; omega, (hk1.step hk2 (fun b _ e => by rw [e.1]; exact (hkj e.2).1)).step hk3 (fun b _ e => by subst e; exact hva), by simp [hrl], ho3, ?_⟩ (by show l.length - (j + 1) < l.length - j; omega)
    intro i y p' hi hy hp'
    simp only at hi
    obtain ⟨e1, e2⟩ := hor2 i y p' (by omega) hy hp'
    refine ⟨by rw [List.getElem?_set_ne (by omega)]; exact e1, (e2.keep hk2 (fun hc e => ?_)).keep hk3 (fun hc e => ?_)⟩
    · exact hd i j y x hy hx (by omega) hc e.2 e.1
    · exact ((hq.at_ i y p' hy hp').2.2 hc).2 e
  · refine zrun ?_ ?_
    exact nw_end rfl ⟨rfl, hk1⟩

/-- the i-th, if there is one -/
def selI (l : List Pr) (i : Int) : Option Pr := if 0 ≤ i then l[i.toNat]? else none
theorem selI_none {l : List Pr} {i : Int} (h : i < 0 ∨ (l.length : Int) ≤ i) : selI l i = none := by
  unfold selI
  split
  · exact List.getElem?_eq_none (by omega)
  · rfl
theorem selI_some {l : List Pr} {i : Int} (h0 : 0 ≤ i) (h1 : i < l.length) : ∃ p, l[i.toNat]? = some p ∧ selI l i = some p := by
  obtain ⟨p, hp⟩ := getp (l := l) (j := i.toNat) (by omega)
  exact ⟨p, hp, by unfold selI; rw [if_pos h0, hp]⟩
/-- an answer of a pair: of its own -/
def PairA (H H' : Heap) (o : Option Pr) (v : Value) : Prop := Keep Non H H' ∧ ∃ c, v = .tuple #[.agg [c, .int .u64 (o.getD ([], 0)).2].toArray, .bool o.isSome] ∧ Own 1 H' c (o.getD ([], 0)).1.length (bvs (o.getD ([], 0)).1) ∧ Fresh H c

end Go.Proofs.YtbcflfkajkmkdaaDoor.X
