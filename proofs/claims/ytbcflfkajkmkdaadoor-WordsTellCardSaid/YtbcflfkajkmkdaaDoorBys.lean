/- What the statements share of rows of bytes, and chapter 1's own answers: what these functions answer. -/
import Derived.Test.YtbcflfkajkmkdaaDoorKey
import Derived.Test.YtbcflfkajkmkdaaDoorKq
namespace Go.Proofs.YtbcflfkajkmkdaaDoor.X
open Go Go.Proofs
set_option linter.unusedVariables false
set_option maxRecDepth 10000

theorem law_SameBytes {va vb : Value} {la lb : Bytes} {H : Heap} (hA : Bs H va la) (hB : Bs H vb lb) : Ret Tryd.prog 28 [va, vb] H (fun v H' => H = H' ∧ v = .bool (la == lb)) := by
  have sA := hA.sl
  have sB := hB.sl
  have cA := sA.cap
  have cB := sB.cap
  refine ret_of Tryd.func28 rfl rfl rfl rfl ?_
  intro w0
  refine zrun ?_ ?_
  refine cw_cond rfl (fun h1 => ?_) (fun h1 => ?_) <;> (try simp at h1)
  · refine zrun ?_ ?_
    refine cw_ret1 rfl rfl ⟨rfl, ?_⟩
    (try show Value.int _ _ = Value.int _ _); (try show Value.bool _ = Value.bool _)
    have : la ≠ lb := by intro e; subst e; exact h1 rfl
    simp [this]
  · refine zrun ?_ ?_
    refine cw_loop (fun j : Nat => [(0, va), (1, vb), (5, .int .i64 j)]) (fun j H' => H = H' ∧ j ≤ la.length ∧ la.take j = lb.take j) (fun j => la.length - j) 0 ⟨rfl, rfl, rfl, trivial⟩ ⟨rfl, by omega, by simp⟩ ?_
    rintro j _ ⟨rfl, hj, ht⟩
    refine zrun ?_ ?_
    refine cw_cond rfl (fun h2 => ?_) (fun h2 => ?_) <;> (try simp at h2)
    · obtain ⟨x, hx⟩ : ∃ x, la[j]? = some x := ⟨_, List.getElem?_eq_getElem h2⟩
      obtain ⟨y, hy⟩ : ∃ y, lb[j]? = some y := ⟨_, List.getElem?_eq_getElem (by omega)⟩
      refine zrun ?_ ?_
      refine cw_quiet mixed (by kernel_rfl) ?_
      refine zrun ?_ ?_
      refine x_load rfl rfl (hpmt (hA.get j x hx)) rfl trivial ?_
      refine zrun ?_ ?_
      refine x_load rfl rfl (hpmt (hB.get j y hy)) rfl trivial ?_
      refine zrun ?_ ?_
      refine cw_cond rfl (fun h3 => ?_) (fun h3 => ?_) <;> (try simp at h3)
      · refine zrun ?_ ?_
        refine cw_ret1 rfl rfl ⟨rfl, ?_⟩
        (try show Value.int _ _ = Value.int _ _); (try show Value.bool _ = Value.bool _)
        have : la ≠ lb := by
          intro e
          subst e
          rw [hx] at hy
          cases hy
          exact h3 rfl
        simp [this]
      · have h3' : x = y := UInt8.toNat_inj.1 (by omega)
        refine zrun ?_ ?_
        refine nw_round (j + 1) ⟨rfl, rfl, rfl, trivial⟩ ⟨rfl, by omega, ?_⟩ (by omega)
        rw [List.take_add_one, List.take_add_one, ht, hx, hy, h3']
    · have : j = la.length := by omega
      subst this
      refine zrun ?_ ?_
      refine cw_ret1 rfl rfl ⟨rfl, ?_⟩
      (try show Value.int _ _ = Value.int _ _); (try show Value.bool _ = Value.bool _)
      have : la = lb := by
        have h := ht
        rw [List.take_length, List.take_of_length_le (by omega)] at h
        exact h
      simp [this]

/-- a copy with spare room that is marked -/
structure Lent (H : Heap) (v : Value) (l : Bytes) : Prop where
  sl : IsSl v l.length
  len : l.length ≤ 140737488355000
  cap : l.length + 3 ≤ sc v
  at_ : Cels H (sb v) (so v) (bvs (l ++ [119, 119, 119]))
  blk : ∃ c, Blk H (sb v) c ∧ so v + sc v ≤ c.length
theorem Lent.bs {H : Heap} {v : Value} {l : Bytes} (h : Lent H v l) : Bs H v l := by
  refine ⟨h.sl, ?_⟩
  have := h.at_.take l.length
  rw [bvs_append, List.take_append_of_le_length (by rw [bvs_length]; exact Nat.le_refl _), List.take_of_length_le (by rw [bvs_length]; exact Nat.le_refl _)] at this
  exact this
theorem Lent.keep {S : Nat → Prop} {H H' : Heap} {v : Value} {l : Bytes} (h : Lent H v l) (k : Keep S H H') (hn : ¬ S (sb v)) : Lent H' v l := ⟨h.sl, h.len, h.cap, h.at_.keep k (fun _ => hn), let ⟨c, h1, h2⟩ := h.blk; ⟨c, h1.keep k hn, h2⟩⟩
theorem Lent.keepN {H H' : Heap} {v : Value} {l : Bytes} (h : Lent H v l) (k : Keep Non H H') : Lent H' v l := h.keep k (fun h => h)

theorem Lent.own {H : Heap} {v : Value} {l : Bytes} (h : Lent H v l) : Own 1 H v l.length (bvs l) := by
  obtain ⟨c, h1, h2⟩ := h.blk
  refine ⟨h.sl, by rw [bvs_length, Nat.mul_one], fun _ => ⟨c, h1, by rw [Nat.mul_one]; exact h2, ?_⟩⟩
  have hb := h.bs.at_
  apply List.ext_getElem?
  intro j
  rw [List.getElem?_take, List.getElem?_drop]
  by_cases hj : j < (bvs l).length
  · rw [if_pos hj]
    have := hb j hj
    rw [h1.cel] at this
    rw [this, List.getElem?_eq_getElem hj]
  · rw [if_neg hj, List.getElem?_eq_none (by omega)]
theorem Lent.lt {H : Heap} {v : Value} {l : Bytes} (h : Lent H v l) : sb v < H.size := lt_of_cel (h.at_ 0 (by simp [bvs]))

/-- what was answered is written over: only the block it stands in is touched -/
theorem law_OverBytes {va : Value} {m : Nat} {cs : List Value} {H : Heap} (hO : Own 1 H va m cs) (hm : m ≤ 140737488355000) : Ret Tryd.prog 15 [va] H (fun v H' => v = .tuple #[] ∧ Keep (fun b => b = sb va ∧ 0 < sc va) H H') := by
  have sA := hO.sl
  have cA := sA.cap
  refine ret_of Tryd.func15 rfl rfl rfl rfl ?_
  intro w0
  refine zrun ?_ ?_
  refine cw_loop (fun j : Nat => [(0, va), (2, .int .i64 j)]) (fun j H' => j ≤ m ∧ Keep (fun b => b = sb va ∧ 0 < sc va) H H' ∧ ∃ cs', Own 1 H' va m cs') (fun j => m - j) 0 ⟨rfl, rfl, trivial⟩ ⟨by omega, Keep.refl _ _, cs, hO⟩ ?_
  rintro j H1 ⟨hj, hk, cs', hO'⟩
  have hl' := hO'.len
  refine zrun ?_ ?_
  refine cw_cond rfl (fun h1 => ?_) (fun h1 => ?_) <;> (try simp at h1)
  · obtain ⟨l, hl1, hl2, hl3⟩ := hO'.store j (by omega)
    refine zrun ?_ ?_
    refine x_store rfl rfl rfl rfl hl1 hl2 trivial ?_
    intro H2 hB2 hk2 hs2
    refine ⟨trivial, ?_⟩
    refine zrun ?_ ?_
    exact nw_round (j + 1) ⟨rfl, rfl, trivial⟩ ⟨by omega, hk.step hk2 (fun b _ e => ⟨e, by omega⟩), _, hl3 _ _ hB2⟩ (by omega)
  · refine zrun ?_ ?_
    refine x_buildSlice rfl rfl rfl rfl (by omega) (by simp [oneC, Value.oneCell']) rfl trivial ?_
    intro H2 hn
    refine ⟨trivial, ?_⟩
    refine x_append (by rfl) (by rfl) (by rfl) rfl rfl rfl (hO'.keep hn.keep (fun _ h => h)) (isSl_some (Nat.le_refl _) (by omega)) (m := 1) (cx := [.int .u8 238]) rfl (hn.blk.cels 0 1 (by simp)) (by simp [oneC, Value.oneCell']) (by omega) rfl trivial ?_
    intro v' H3 hap
    refine ⟨trivial, ?_⟩
    refine zrun ?_ ?_
    exact nw_end rfl ⟨rfl, (hk.step hn.keep (fun b _ h => h.elim)).step hap.keep (fun b _ h => ⟨h.1, by have := h.2.1; omega⟩)⟩

/-! chapter 1's own answers -/
end Go.Proofs.YtbcflfkajkmkdaaDoor.X
