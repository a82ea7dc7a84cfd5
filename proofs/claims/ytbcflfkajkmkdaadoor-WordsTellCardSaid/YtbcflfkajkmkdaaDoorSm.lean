/- Chapter 24: are two operations alike; are operations more than are gone through. -/
import Derived.Test.YtbcflfkajkmkdaaDoorRd4
namespace Go.Proofs.YtbcflfkajkmkdaaDoor.X
open Go Go.Proofs Go.RowKit
set_option linter.unusedVariables false
set_option linter.unusedSimpArgs false
set_option maxRecDepth 10000
set_option maxHeartbeats 16000000

theorem law_SlEq {va vb : Value} {la lb : Bytes} {H : Heap} (hA : Bs H va la) (hB : Bs H vb lb) : Ret Tryd.prog 30 [va, vb] H (fun v H' => H = H' ∧ v = .bool (la == lb)) := by
  have sA := hA.sl
  have sB := hB.sl
  have cA := sA.cap
  have cB := sB.cap
  refine ret_of Tryd.func30 rfl rfl rfl rfl ?_
  intro w0
  refine zrun ?_ ?_
  refine cw_cond rfl (fun h1 => ?_) (fun h1 => ?_) <;> (try simp at h1)
  · refine zrun ?_ ?_
    refine cw_ret1 rfl rfl ⟨rfl, ?_⟩
    (try show Value.int _ _ = Value.int _ _); (try show Value.bool _ = Value.bool _)
    have : la ≠ lb := by intro e; subst e; exact h1 rfl
    simp [this]
  · refine zrun ?_ ?_
    refine cw_loop (fun j : Nat => [(0, va), (1, vb), (12, .int .i64 la.length), (13, .int .i64 j)]) (fun j H' => H = H' ∧ j ≤ la.length ∧ la.take j = lb.take j) (fun j => la.length - j) 0 (by repeat (first | exact True.intro | refine ⟨rfl, ?_⟩)) ⟨rfl, by omega, by simp⟩ ?_
    rintro j _ ⟨rfl, hj, ht⟩
    refine zrun ?_ ?_
    refine cw_cond rfl (fun h2 => ?_) (fun h2 => ?_) <;> (try simp at h2)
    · obtain ⟨x, hx⟩ : ∃ x, la[j]? = some x := ⟨_, List.getElem?_eq_getElem (by omega)⟩
      obtain ⟨y, hy⟩ : ∃ y, lb[j]? = some y := ⟨_, List.getElem?_eq_getElem (by omega)⟩
      refine zrun ?_ ?_
      refine cw_quiet mixed (by kernel_rfl) ?_
      refine zrun ?_ ?_
      refine x_load rfl rfl (hpmt (hA.get j x hx)) rfl trivial ?_
      refine zrun ?_ ?_
      refine x_load rfl rfl (hpmt (hB.get j y hy)) rfl trivial ?_
      refine zrun ?_ ?_
      refine cw_cond rfl (fun h3 => ?_) (fun h3 => ?_) <;> (try simp at h3)
      · refine zrun ?_ ?_
        refine cw_ret1 rfl rfl ⟨rfl, ?_⟩
        (try show Value.int _ _ = Value.int _ _); (try show Value.bool _ = Value.bool _)
        have : la ≠ lb := by
          intro e
          subst e
          rw [hx] at hy
          cases hy
          exact h3 rfl
        simp [this]
      · have h3' : x = y := UInt8.toNat_inj.1 (by omega)
        refine zrun ?_ ?_
        refine nw_round (j + 1) (by repeat (first | exact True.intro | refine ⟨rfl, ?_⟩)) ⟨rfl, by omega, ?_⟩ (by omega)
        rw [List.take_add_one, List.take_add_one, ht, hx, hy, h3']
    · have : j = la.length := by omega
      subst this
      refine zrun ?_ ?_
      refine cw_ret1 rfl rfl ⟨rfl, ?_⟩
      (try show Value.int _ _ = Value.int _ _); (try show Value.bool _ = Value.bool _)
      have : la = lb := by
        have h := ht
        rw [List.take_length, List.take_of_length_le (by omega)] at h
        exact h
      simp [this]
theorem law_Same1 {ka kb : Value} {x y : Pr} {H : Heap} (hA : Bs H ka x.1) (hB : Bs H kb y.1) : Ret Tryd.prog 32 [.agg [ka, .int .u64 x.2].toArray, .agg [kb, .int .u64 y.2].toArray] H (fun v H' => Keep Non H H' ∧ v = .bool (decide (x = y))) := by
  refine ret_of Tryd.func32 rfl rfl rfl rfl ?_
  intro w0
  refine zrun ?_ ?_
  refine x_box (cs := [ka, .int .u64 x.2]) rfl rfl rfl trivial ?_
  intro H1 hn1
  refine ⟨trivial, ?_⟩
  refine zrun ?_ ?_
  refine x_box (cs := [kb, .int .u64 y.2]) rfl rfl rfl trivial ?_
  intro H2 hn2
  refine ⟨trivial, ?_⟩
  have hk := hn1.keep.non_trans hn2.keep
  have a0 : cel H2 H.size 0 = some ka := hn2.keep.cel (by rw [hn1.blk.cel]; rfl) (fun h => h)
  have a1 : cel H2 H.size 1 = some (.int .u64 x.2) := hn2.keep.cel (by rw [hn1.blk.cel]; rfl) (fun h => h)
  have b0 : cel H2 H1.size 0 = some kb := by rw [hn2.blk.cel]; rfl
  have b1 : cel H2 H1.size 1 = some (.int .u64 y.2) := by rw [hn2.blk.cel]; rfl
  refine zrun ?_ ?_
  refine x_load rfl rfl (hpmt (a1)) rfl trivial ?_
  refine zrun ?_ ?_
  refine x_load rfl rfl (hpmt (b1)) rfl trivial ?_
  refine zrun ?_ ?_
  by_cases e : x.2 = y.2
  · rw [show (x.2 == y.2) = true by simp [e]]
    refine zrun ?_ ?_
    refine x_load rfl rfl (hpmt (a0)) rfl trivial ?_
    refine zrun ?_ ?_
    refine x_load rfl rfl (hpmt (b0)) rfl trivial ?_
    refine zrun ?_ ?_
    refine x_call rfl rfl rfl trivial (law_SlEq (hA.keepN hk) (hB.keepN hk)) ?_
    rintro _ _ ⟨rfl, rfl⟩
    refine ⟨trivial, ?_⟩
    refine zrun ?_ ?_
    refine cw_ret1 rfl rfl ⟨hk, ?_⟩
    congr 1
    by_cases e2 : x.1 = y.1
    · rw [decide_eq_true (Prod.ext e2 e)]
      simp [e2]
    · rw [decide_eq_false (fun h => e2 (by rw [h]))]
      simp [e2]
  · rw [show (x.2 == y.2) = false by simp [e]]
    refine zrun ?_ ?_
    refine cw_ret1 rfl rfl ⟨hk, ?_⟩
    rw [decide_eq_false (fun h => e (by rw [h]))]
theorem law_EqualFunc {va vb : Value} {la lb : List Pr} {H : Heap} (hA : Ps H va la) (hB : Ps H vb lb) : Ret Tryd.prog 31 [va, vb, .func (.func 32) #[] #[]] H (fun v H' => Keep Non H H' ∧ v = .bool (decide (la = lb))) := by
  have sA := hA.sl
  have sB := hB.sl
  have cA := sA.cap
  have cB := sB.cap
  refine ret_of Tryd.func31 rfl rfl rfl rfl ?_
  intro w0
  refine zrun ?_ ?_
  refine cw_cond rfl (fun h1 => ?_) (fun h1 => ?_) <;> (try simp at h1)
  · refine zrun ?_ ?_
    refine cw_ret1 rfl rfl ⟨Keep.refl _ _, ?_⟩
    have : la ≠ lb := by intro e; subst e; exact h1 rfl
    simp [this]
  · refine zrun ?_ ?_
    refine cw_loop (fun j : Nat => [(0, va), (1, vb), (2, .func (.func 32) #[] #[]), (15, va), (16, .int .i64 la.length), (17, .int .i64 j)]) (fun j H' => Keep Non H H' ∧ j ≤ la.length ∧ la.take j = lb.take j) (fun j => la.length - j) 0 (by repeat (first | exact True.intro | refine ⟨rfl, ?_⟩)) ⟨Keep.refl _ _, by omega, by simp⟩ ?_
    rintro j H1 ⟨hk1, hj, ht⟩
    refine zrun ?_ ?_
    refine cw_cond rfl (fun h2 => ?_) (fun h2 => ?_) <;> (try simp at h2)
    · obtain ⟨x, hx⟩ := getp (l := la) (j := j) (by omega)
      obtain ⟨y, hy⟩ := getp (l := lb) (j := j) (by omega)
      obtain ⟨ka, a1, a2, a3⟩ := (hA.keepN hk1).at_ j x hx
      obtain ⟨kb, b1, b2, b3⟩ := (hB.keepN hk1).at_ j y hy
      have oca := isSl_oneC a3.sl
      have ocb := isSl_oneC b3.sl
      refine zrun ?_ ?_
      refine x_loads (cs := [ka, .int .u64 x.2]) rfl rfl rfl (hpmt fun o ho => by
        match o, ho with
        | 0, _ => exact a1
        | 1, _ => exact a2) rfl trivial ?_
      refine zrun ?_ ?_
      refine x_alloc rfl rfl trivial ?_
      intro H2 hn2
      refine ⟨trivial, ?_⟩
      refine zrun ?_ ?_
      refine x_stores rfl rfl rfl rfl (oc_cons oca (oc_cons rfl oc_nil)) hn2.blk (by simp) trivial ?_
      intro H3 hB3 hk3 hs3
      refine ⟨trivial, ?_⟩
      have hB3 : Blk H3 H1.size [ka, .int .u64 x.2] := hB3
      have hk13 : Keep Non H1 H3 := keep_at hn2.keep hk3 (Nat.le_refl _)
      have c1 := hk13.cel b1 (fun h => h)
      have c2 := hk13.cel b2 (fun h => h)
      refine zrun ?_ ?_
      refine x_loads (cs := [kb, .int .u64 y.2]) rfl rfl rfl (hpmt fun o ho => by
        match o, ho with
        | 0, _ => exact c1
        | 1, _ => exact c2) rfl trivial ?_
      refine zrun ?_ ?_
      refine x_alloc rfl rfl trivial ?_
      intro H4 hn4
      refine ⟨trivial, ?_⟩
      refine zrun ?_ ?_
      refine x_stores rfl rfl rfl rfl (oc_cons ocb (oc_cons rfl oc_nil)) hn4.blk (by simp) trivial ?_
      intro H5 hB5 hk5 hs5
      refine ⟨trivial, ?_⟩
      have hB5 : Blk H5 H3.size [kb, .int .u64 y.2] := hB5
      have hk35 : Keep Non H3 H5 := keep_at hn4.keep hk5 (Nat.le_refl _)
      have hB35 := hB3.keep hk35 (fun h => h)
      have hk15 := hk13.non_trans hk35
      refine zrun ?_ ?_
      refine x_loads (cs := [ka, .int .u64 x.2]) rfl rfl rfl (hpmt (hB35.cels 0 2 (by simp))) rfl trivial ?_
      refine zrun ?_ ?_
      refine x_loads (cs := [kb, .int .u64 y.2]) rfl rfl rfl (hpmt (hB5.cels 0 2 (by simp))) rfl trivial ?_
      refine zrun ?_ ?_
      refine x_callv (fv := []) (cv := []) rfl rfl rfl rfl trivial (law_Same1 (x := x) (y := y) (a3.keepN hk15) (b3.keepN hk15)) ?_
      rintro _ H6 ⟨hk6, rfl⟩
      refine ⟨trivial, ?_⟩
      refine zrun ?_ ?_
      by_cases e : x = y
      · rw [decide_eq_true e]
        refine zrun ?_ ?_
        refine nw_round (j + 1) (by repeat (first | exact True.intro | refine ⟨rfl, ?_⟩)) ⟨(hk1.non_trans hk15).non_trans hk6, by omega, ?_⟩ (by omega)
        rw [List.take_add_one, List.take_add_one, ht, hx, hy, e]
      · rw [decide_eq_false e]
        refine zrun ?_ ?_
        refine cw_ret1 rfl rfl ⟨(hk1.non_trans hk15).non_trans hk6, ?_⟩
        have : la ≠ lb := by
          intro e2
          subst e2
          rw [hx] at hy
          cases hy
          exact e rfl
        simp [this]
    · have : j = la.length := by omega
      subst this
      refine zrun ?_ ?_
      refine cw_ret1 rfl rfl ⟨hk1, ?_⟩
      have : la = lb := by
        have h := ht
        rw [List.take_length, List.take_of_length_le (by omega)] at h
        exact h
      simp [this]
theorem law_SameOp {vk vt vd vp wk wt wd wp : Value} {x y : Opn} {H : Heap} (hX : OpV H vk vt vd vp x) (hY : OpV H wk wt wd wp y) : Ret Tryd.prog 11 [.agg (opCells x vk vt vd vp).toArray, .agg (opCells y wk wt wd wp).toArray] H (fun v H' => Keep Non H H' ∧ v = .bool (decide (x = y))) := by
  refine ret_of Tryd.func11 rfl rfl rfl rfl ?_
  intro w0
  refine zrun ?_ ?_
  refine x_box (cs := opCells x vk vt vd vp) rfl rfl rfl trivial ?_
  intro H1 hn1
  refine ⟨trivial, ?_⟩
  refine zrun ?_ ?_
  refine x_box (cs := opCells y wk wt wd wp) rfl rfl rfl trivial ?_
  intro H2 hn2
  refine ⟨trivial, ?_⟩
  have hk := hn1.keep.non_trans hn2.keep
  have hX2 := hX.keepN hk
  have hY2 := hY.keepN hk
  have hBx := hn1.blk.keep hn2.keep (fun h => h)
  have hBy := hn2.blk
  have a0 : cel H2 H.size 0 = some (.int .i64 x.kind) := by rw [hBx.cel]; rfl
  have b0 : cel H2 H1.size 0 = some (.int .i64 y.kind) := by rw [hBy.cel]; rfl
  have a1 : cel H2 H.size 1 = some (.int .i64 x.slot) := by rw [hBx.cel]; rfl
  have b1 : cel H2 H1.size 1 = some (.int .i64 y.slot) := by rw [hBy.cel]; rfl
  have a2 : cel H2 H.size 2 = some (.int .i64 x.a) := by rw [hBx.cel]; rfl
  have b2 : cel H2 H1.size 2 = some (.int .i64 y.a) := by rw [hBy.cel]; rfl
  have a3 : cel H2 H.size 3 = some (.int .i64 x.b) := by rw [hBx.cel]; rfl
  have b3 : cel H2 H1.size 3 = some (.int .i64 y.b) := by rw [hBy.cel]; rfl
  have a4 : cel H2 H.size 4 = some (.int .i64 x.cursor) := by rw [hBx.cel]; rfl
  have b4 : cel H2 H1.size 4 = some (.int .i64 y.cursor) := by rw [hBy.cel]; rfl
  have a5 : cel H2 H.size 5 = some (.int .i64 x.tag) := by rw [hBx.cel]; rfl
  have b5 : cel H2 H1.size 5 = some (.int .i64 y.tag) := by rw [hBy.cel]; rfl
  have a6 : cel H2 H.size 6 = some (.int .i64 x.n) := by rw [hBx.cel]; rfl
  have b6 : cel H2 H1.size 6 = some (.int .i64 y.n) := by rw [hBy.cel]; rfl
  have a7 : cel H2 H.size 7 = some (vk) := by rw [hBx.cel]; rfl
  have b7 : cel H2 H1.size 7 = some (wk) := by rw [hBy.cel]; rfl
  have a8 : cel H2 H.size 8 = some (vt) := by rw [hBx.cel]; rfl
  have b8 : cel H2 H1.size 8 = some (wt) := by rw [hBy.cel]; rfl
  have a9 : cel H2 H.size 9 = some (vd) := by rw [hBx.cel]; rfl
  have b9 : cel H2 H1.size 9 = some (wd) := by rw [hBy.cel]; rfl
  have a10 : cel H2 H.size 10 = some (.int .u64 x.val) := by rw [hBx.cel]; rfl
  have b10 : cel H2 H1.size 10 = some (.int .u64 y.val) := by rw [hBy.cel]; rfl
  have a11 : cel H2 H.size 11 = some (vp) := by rw [hBx.cel]; rfl
  have b11 : cel H2 H1.size 11 = some (wp) := by rw [hBy.cel]; rfl
  refine zrun ?_ ?_
  refine x_load rfl rfl (hpmt (a0)) rfl trivial ?_
  refine zrun ?_ ?_
  refine x_load rfl rfl (hpmt (b0)) rfl trivial ?_
  refine zrun ?_ ?_
  by_cases e0 : x.kind = y.kind
  rotate_left
  · rw [show (x.kind == y.kind) = false by simp [e0]]
    refine zrun ?_ ?_
    exact cw_ret1 rfl rfl ⟨hk, by rw [decide_eq_false (fun h => e0 (by rw [h]))]⟩
  rw [show (x.kind == y.kind) = true by simp [e0]]
  refine zrun ?_ ?_
  refine x_load rfl rfl (hpmt (a1)) rfl trivial ?_
  refine zrun ?_ ?_
  refine x_load rfl rfl (hpmt (b1)) rfl trivial ?_
  refine zrun ?_ ?_
  by_cases e1 : x.slot = y.slot
  rotate_left
  · rw [show (x.slot == y.slot) = false by simp [e1]]
    refine zrun ?_ ?_
    exact cw_ret1 rfl rfl ⟨hk, by rw [decide_eq_false (fun h => e1 (by rw [h]))]⟩
  rw [show (x.slot == y.slot) = true by simp [e1]]
  refine zrun ?_ ?_
  refine x_load rfl rfl (hpmt (a2)) rfl trivial ?_
  refine zrun ?_ ?_
  refine x_load rfl rfl (hpmt (b2)) rfl trivial ?_
  refine zrun ?_ ?_
  by_cases e2 : x.a = y.a
  rotate_left
  · rw [show (x.a == y.a) = false by simp [e2]]
    refine zrun ?_ ?_
    exact cw_ret1 rfl rfl ⟨hk, by rw [decide_eq_false (fun h => e2 (by rw [h]))]⟩
  rw [show (x.a == y.a) = true by simp [e2]]
  refine zrun ?_ ?_
  refine x_load rfl rfl (hpmt (a3)) rfl trivial ?_
  refine zrun ?_ ?_
  refine x_load rfl rfl (hpmt (b3)) rfl trivial ?_
  refine zrun ?_ ?_
  by_cases e3 : x.b = y.b
  rotate_left
  · rw [show (x.b == y.b) = false by simp [e3]]
    refine zrun ?_ ?_
    exact cw_ret1 rfl rfl ⟨hk, by rw [decide_eq_false (fun h => e3 (by rw [h]))]⟩
  rw [show (x.b == y.b) = true by simp [e3]]
  refine zrun ?_ ?_
  refine x_load rfl rfl (hpmt (a4)) rfl trivial ?_
  refine zrun ?_ ?_
  refine x_load rfl rfl (hpmt (b4)) rfl trivial ?_
  refine zrun ?_ ?_
  by_cases e4 : x.cursor = y.cursor
  rotate_left
  · rw [show (x.cursor == y.cursor) = false by simp [e4]]
    refine zrun ?_ ?_
    exact cw_ret1 rfl rfl ⟨hk, by rw [decide_eq_false (fun h => e4 (by rw [h]))]⟩
  rw [show (x.cursor == y.cursor) = true by simp [e4]]
  refine zrun ?_ ?_
  refine x_load rfl rfl (hpmt (a5)) rfl trivial ?_
  refine zrun ?_ ?_
  refine x_load rfl rfl (hpmt (b5)) rfl trivial ?_
  refine zrun ?_ ?_
  by_cases e5 : x.tag = y.tag
  rotate_left
  · rw [show (x.tag == y.tag) = false by simp [e5]]
    refine zrun ?_ ?_
    exact cw_ret1 rfl rfl ⟨hk, by rw [decide_eq_false (fun h => e5 (by rw [h]))]⟩
  rw [show (x.tag == y.tag) = true by simp [e5]]
  refine zrun ?_ ?_
  refine x_load rfl rfl (hpmt (a6)) rfl trivial ?_
  refine zrun ?_ ?_
  refine x_load rfl rfl (hpmt (b6)) rfl trivial ?_
  refine zrun ?_ ?_
  by_cases e6 : x.n = y.n
  rotate_left
  · rw [show (x.n == y.n) = false by simp [e6]]
    refine zrun ?_ ?_
    exact cw_ret1 rfl rfl ⟨hk, by rw [decide_eq_false (fun h => e6 (by rw [h]))]⟩
  rw [show (x.n == y.n) = true by simp [e6]]
  refine zrun ?_ ?_
  refine x_load rfl rfl (hpmt (a10)) rfl trivial ?_
  refine zrun ?_ ?_
  refine x_load rfl rfl (hpmt (b10)) rfl trivial ?_
  refine zrun ?_ ?_
  by_cases e10 : x.val = y.val
  rotate_left
  · rw [show (x.val == y.val) = false by simp [e10]]
    refine zrun ?_ ?_
    exact cw_ret1 rfl rfl ⟨hk, by rw [decide_eq_false (fun h => e10 (by rw [h]))]⟩
  rw [show (x.val == y.val) = true by simp [e10]]
  refine zrun ?_ ?_
  refine x_load rfl rfl (hpmt (a7)) rfl trivial ?_
  refine zrun ?_ ?_
  refine x_load rfl rfl (hpmt (b7)) rfl trivial ?_
  refine zrun ?_ ?_
  refine x_call rfl rfl rfl trivial (law_SameBytes hX2.key hY2.key) ?_
  rintro _ _ ⟨rfl, rfl⟩
  refine ⟨trivial, ?_⟩
  by_cases e7 : x.key = y.key
  rotate_left
  · rw [show (x.key == y.key) = false by simp [e7]]
    refine zrun ?_ ?_
    exact cw_ret1 rfl rfl ⟨hk, by rw [decide_eq_false (fun h => e7 (by rw [h]))]⟩
  rw [show (x.key == y.key) = true by simp [e7]]
  refine zrun ?_ ?_
  refine x_load rfl rfl (hpmt (a8)) rfl trivial ?_
  refine zrun ?_ ?_
  refine x_load rfl rfl (hpmt (b8)) rfl trivial ?_
  refine zrun ?_ ?_
  refine x_call rfl rfl rfl trivial (law_SameBytes hX2.tov hY2.tov) ?_
  rintro _ _ ⟨rfl, rfl⟩
  refine ⟨trivial, ?_⟩
  by_cases e8 : x.to = y.to
  rotate_left
  · rw [show (x.to == y.to) = false by simp [e8]]
    refine zrun ?_ ?_
    exact cw_ret1 rfl rfl ⟨hk, by rw [decide_eq_false (fun h => e8 (by rw [h]))]⟩
  rw [show (x.to == y.to) = true by simp [e8]]
  refine zrun ?_ ?_
  refine x_load rfl rfl (hpmt (a9)) rfl trivial ?_
  refine zrun ?_ ?_
  refine x_load rfl rfl (hpmt (b9)) rfl trivial ?_
  refine zrun ?_ ?_
  refine x_call rfl rfl rfl trivial (law_SameBytes hX2.data hY2.data) ?_
  rintro _ _ ⟨rfl, rfl⟩
  refine ⟨trivial, ?_⟩
  by_cases e9 : x.data = y.data
  rotate_left
  · rw [show (x.data == y.data) = false by simp [e9]]
    refine zrun ?_ ?_
    exact cw_ret1 rfl rfl ⟨hk, by rw [decide_eq_false (fun h => e9 (by rw [h]))]⟩
  rw [show (x.data == y.data) = true by simp [e9]]
  refine zrun ?_ ?_
  refine x_load rfl rfl (hpmt (a11)) rfl trivial ?_
  refine zrun ?_ ?_
  refine x_load rfl rfl (hpmt (b11)) rfl trivial ?_
  refine zrun ?_ ?_
  refine x_call rfl rfl rfl trivial (law_SamePairs hX2.pairs hY2.pairs) ?_
  rintro _ _ ⟨rfl, rfl⟩
  refine ⟨trivial, ?_⟩
  refine zrun ?_ ?_
  refine cw_ret1 rfl rfl ⟨hk, ?_⟩
  congr 1
  by_cases e11 : x.pairs = y.pairs
  · rw [decide_eq_true e11, decide_eq_true (Opn.ext e0 e1 e2 e3 e4 e5 e6 e7 e8 e9 e10 e11)]
  · rw [decide_eq_false e11, decide_eq_false (fun h => e11 (by rw [h]))]
theorem law_Same {vk vt vd vp wk wt wd wp : Value} {x y : Opn} {H : Heap} (hX : OpV H vk vt vd vp x) (hY : OpV H wk wt wd wp y) : Ret Tryd.prog 12 [.agg (opCells x vk vt vd vp).toArray, .agg (opCells y wk wt wd wp).toArray] H (fun v H' => Keep Non H H' ∧ v = .bool (decide (x = y))) := by
  refine ret_of Tryd.func12 rfl rfl rfl rfl ?_
  intro w0
  refine zrun ?_ ?_
  refine x_box (cs := opCells x vk vt vd vp) rfl rfl rfl trivial ?_
  intro H1 hn1
  refine ⟨trivial, ?_⟩
  refine zrun ?_ ?_
  refine x_box (cs := opCells y wk wt wd wp) rfl rfl rfl trivial ?_
  intro H2 hn2
  refine ⟨trivial, ?_⟩
  have hk := hn1.keep.non_trans hn2.keep
  have hX2 := hX.keepN hk
  have hY2 := hY.keepN hk
  have hBx := hn1.blk.keep hn2.keep (fun h => h)
  have hBy := hn2.blk
  have a0 : cel H2 H.size 0 = some (.int .i64 x.kind) := by rw [hBx.cel]; rfl
  have b0 : cel H2 H1.size 0 = some (.int .i64 y.kind) := by rw [hBy.cel]; rfl
  have a1 : cel H2 H.size 1 = some (.int .i64 x.slot) := by rw [hBx.cel]; rfl
  have b1 : cel H2 H1.size 1 = some (.int .i64 y.slot) := by rw [hBy.cel]; rfl
  have a2 : cel H2 H.size 2 = some (.int .i64 x.a) := by rw [hBx.cel]; rfl
  have b2 : cel H2 H1.size 2 = some (.int .i64 y.a) := by rw [hBy.cel]; rfl
  have a3 : cel H2 H.size 3 = some (.int .i64 x.b) := by rw [hBx.cel]; rfl
  have b3 : cel H2 H1.size 3 = some (.int .i64 y.b) := by rw [hBy.cel]; rfl
  have a4 : cel H2 H.size 4 = some (.int .i64 x.cursor) := by rw [hBx.cel]; rfl
  have b4 : cel H2 H1.size 4 = some (.int .i64 y.cursor) := by rw [hBy.cel]; rfl
  have a5 : cel H2 H.size 5 = some (.int .i64 x.tag) := by rw [hBx.cel]; rfl
  have b5 : cel H2 H1.size 5 = some (.int .i64 y.tag) := by rw [hBy.cel]; rfl
  have a6 : cel H2 H.size 6 = some (.int .i64 x.n) := by rw [hBx.cel]; rfl
  have b6 : cel H2 H1.size 6 = some (.int .i64 y.n) := by rw [hBy.cel]; rfl
  have a7 : cel H2 H.size 7 = some (vk) := by rw [hBx.cel]; rfl
  have b7 : cel H2 H1.size 7 = some (wk) := by rw [hBy.cel]; rfl
  have a8 : cel H2 H.size 8 = some (vt) := by rw [hBx.cel]; rfl
  have b8 : cel H2 H1.size 8 = some (wt) := by rw [hBy.cel]; rfl
  have a9 : cel H2 H.size 9 = some (vd) := by rw [hBx.cel]; rfl
  have b9 : cel H2 H1.size 9 = some (wd) := by rw [hBy.cel]; rfl
  have a10 : cel H2 H.size 10 = some (.int .u64 x.val) := by rw [hBx.cel]; rfl
  have b10 : cel H2 H1.size 10 = some (.int .u64 y.val) := by rw [hBy.cel]; rfl
  have a11 : cel H2 H.size 11 = some (vp) := by rw [hBx.cel]; rfl
  have b11 : cel H2 H1.size 11 = some (wp) := by rw [hBy.cel]; rfl
  refine zrun ?_ ?_
  refine x_load rfl rfl (hpmt (a0)) rfl trivial ?_
  refine zrun ?_ ?_
  refine x_load rfl rfl (hpmt (b0)) rfl trivial ?_
  refine zrun ?_ ?_
  by_cases e0 : x.kind = y.kind
  rotate_left
  · rw [show (x.kind == y.kind) = false by simp [e0]]
    refine zrun ?_ ?_
    exact cw_ret1 rfl rfl ⟨hk, by rw [decide_eq_false (fun h => e0 (by rw [h]))]⟩
  rw [show (x.kind == y.kind) = true by simp [e0]]
  refine zrun ?_ ?_
  refine x_load rfl rfl (hpmt (a1)) rfl trivial ?_
  refine zrun ?_ ?_
  refine x_load rfl rfl (hpmt (b1)) rfl trivial ?_
  refine zrun ?_ ?_
  by_cases e1 : x.slot = y.slot
  rotate_left
  · rw [show (x.slot == y.slot) = false by simp [e1]]
    refine zrun ?_ ?_
    exact cw_ret1 rfl rfl ⟨hk, by rw [decide_eq_false (fun h => e1 (by rw [h]))]⟩
  rw [show (x.slot == y.slot) = true by simp [e1]]
  refine zrun ?_ ?_
  refine x_load rfl rfl (hpmt (a2)) rfl trivial ?_
  refine zrun ?_ ?_
  refine x_load rfl rfl (hpmt (b2)) rfl trivial ?_
  refine zrun ?_ ?_
  by_cases e2 : x.a = y.a
  rotate_left
  · rw [show (x.a == y.a) = false by simp [e2]]
    refine zrun ?_ ?_
    exact cw_ret1 rfl rfl ⟨hk, by rw [decide_eq_false (fun h => e2 (by rw [h]))]⟩
  rw [show (x.a == y.a) = true by simp [e2]]
  refine zrun ?_ ?_
  refine x_load rfl rfl (hpmt (a3)) rfl trivial ?_
  refine zrun ?_ ?_
  refine x_load rfl rfl (hpmt (b3)) rfl trivial ?_
  refine zrun ?_ ?_
  by_cases e3 : x.b = y.b
  rotate_left
  · rw [show (x.b == y.b) = false by simp [e3]]
    refine zrun ?_ ?_
    exact cw_ret1 rfl rfl ⟨hk, by rw [decide_eq_false (fun h => e3 (by rw [h]))]⟩
  rw [show (x.b == y.b) = true by simp [e3]]
  refine zrun ?_ ?_
  refine x_load rfl rfl (hpmt (a4)) rfl trivial ?_
  refine zrun ?_ ?_
  refine x_load rfl rfl (hpmt (b4)) rfl trivial ?_
  refine zrun ?_ ?_
  by_cases e4 : x.cursor = y.cursor
  rotate_left
  · rw [show (x.cursor == y.cursor) = false by simp [e4]]
    refine zrun ?_ ?_
    exact cw_ret1 rfl rfl ⟨hk, by rw [decide_eq_false (fun h => e4 (by rw [h]))]⟩
  rw [show (x.cursor == y.cursor) = true by simp [e4]]
  refine zrun ?_ ?_
  refine x_load rfl rfl (hpmt (a5)) rfl trivial ?_
  refine zrun ?_ ?_
  refine x_load rfl rfl (hpmt (b5)) rfl trivial ?_
  refine zrun ?_ ?_
  by_cases e5 : x.tag = y.tag
  rotate_left
  · rw [show (x.tag == y.tag) = false by simp [e5]]
    refine zrun ?_ ?_
    exact cw_ret1 rfl rfl ⟨hk, by rw [decide_eq_false (fun h => e5 (by rw [h]))]⟩
  rw [show (x.tag == y.tag) = true by simp [e5]]
  refine zrun ?_ ?_
  refine x_load rfl rfl (hpmt (a6)) rfl trivial ?_
  refine zrun ?_ ?_
  refine x_load rfl rfl (hpmt (b6)) rfl trivial ?_
  refine zrun ?_ ?_
  by_cases e6 : x.n = y.n
  rotate_left
  · rw [show (x.n == y.n) = false by simp [e6]]
    refine zrun ?_ ?_
    exact cw_ret1 rfl rfl ⟨hk, by rw [decide_eq_false (fun h => e6 (by rw [h]))]⟩
  rw [show (x.n == y.n) = true by simp [e6]]
  refine zrun ?_ ?_
  refine x_load rfl rfl (hpmt (a10)) rfl trivial ?_
  refine zrun ?_ ?_
  refine x_load rfl rfl (hpmt (b10)) rfl trivial ?_
  refine zrun ?_ ?_
  by_cases e10 : x.val = y.val
  rotate_left
  · rw [show (x.val == y.val) = false by simp [e10]]
    refine zrun ?_ ?_
    exact cw_ret1 rfl rfl ⟨hk, by rw [decide_eq_false (fun h => e10 (by rw [h]))]⟩
  rw [show (x.val == y.val) = true by simp [e10]]
  refine zrun ?_ ?_
  refine x_load rfl rfl (hpmt (a7)) rfl trivial ?_
  refine zrun ?_ ?_
  refine x_load rfl rfl (hpmt (b7)) rfl trivial ?_
  refine zrun ?_ ?_
  refine x_call rfl rfl rfl trivial (law_SlEq hX2.key hY2.key) ?_
  rintro _ _ ⟨rfl, rfl⟩
  refine ⟨trivial, ?_⟩
  by_cases e7 : x.key = y.key
  rotate_left
  · rw [show (x.key == y.key) = false by simp [e7]]
    refine zrun ?_ ?_
    exact cw_ret1 rfl rfl ⟨hk, by rw [decide_eq_false (fun h => e7 (by rw [h]))]⟩
  rw [show (x.key == y.key) = true by simp [e7]]
  refine zrun ?_ ?_
  refine x_load rfl rfl (hpmt (a8)) rfl trivial ?_
  refine zrun ?_ ?_
  refine x_load rfl rfl (hpmt (b8)) rfl trivial ?_
  refine zrun ?_ ?_
  refine x_call rfl rfl rfl trivial (law_SlEq hX2.tov hY2.tov) ?_
  rintro _ _ ⟨rfl, rfl⟩
  refine ⟨trivial, ?_⟩
  by_cases e8 : x.to = y.to
  rotate_left
  · rw [show (x.to == y.to) = false by simp [e8]]
    refine zrun ?_ ?_
    exact cw_ret1 rfl rfl ⟨hk, by rw [decide_eq_false (fun h => e8 (by rw [h]))]⟩
  rw [show (x.to == y.to) = true by simp [e8]]
  refine zrun ?_ ?_
  refine x_load rfl rfl (hpmt (a9)) rfl trivial ?_
  refine zrun ?_ ?_
  refine x_load rfl rfl (hpmt (b9)) rfl trivial ?_
  refine zrun ?_ ?_
  refine x_call rfl rfl rfl trivial (law_SlEq hX2.data hY2.data) ?_
  rintro _ _ ⟨rfl, rfl⟩
  refine ⟨trivial, ?_⟩
  by_cases e9 : x.data = y.data
  rotate_left
  · rw [show (x.data == y.data) = false by simp [e9]]
    refine zrun ?_ ?_
    exact cw_ret1 rfl rfl ⟨hk, by rw [decide_eq_false (fun h => e9 (by rw [h]))]⟩
  rw [show (x.data == y.data) = true by simp [e9]]
  refine zrun ?_ ?_
  refine x_load rfl rfl (hpmt (a11)) rfl trivial ?_
  refine zrun ?_ ?_
  refine x_load rfl rfl (hpmt (b11)) rfl trivial ?_
  refine zrun ?_ ?_
  refine x_call rfl rfl rfl trivial (law_EqualFunc hX2.pairs hY2.pairs) ?_
  rintro _ H3 ⟨hk3, rfl⟩
  refine ⟨trivial, ?_⟩
  refine zrun ?_ ?_
  refine cw_ret1 rfl rfl ⟨hk.non_trans hk3, ?_⟩
  congr 1
  by_cases e11 : x.pairs = y.pairs
  · rw [decide_eq_true e11, decide_eq_true (Opn.ext e0 e1 e2 e3 e4 e5 e6 e7 e8 e9 e10 e11)]
  · rw [decide_eq_false e11, decide_eq_false (fun h => e11 (by rw [h]))]
/-- operations in a row -/
structure OpGood (o : Opn) : Prop where
  key : o.key.length ≤ 60
  tol : o.to.length ≤ 60
  data : o.data.length ≤ 1500
  pairs : o.pairs.length ≤ 30
  each : ∀ p ∈ o.pairs, p.1.length ≤ 60
theorem OpGood.sm {o : Opn} (h : OpGood o) : OpSm o := ⟨by have := h.key; omega, by have := h.tol; omega, by have := h.data; omega, by have := h.pairs; omega, fun p hp => by have := h.each p hp; omega⟩
theorem law_GreatOps {v : Value} {H : Heap} (m : Nat) (hm : m ≤ 1000) (hv : IsSl v m) (os : Nat → Opn) (hc : ∀ j, j < m → ∃ vk vt vd vp, (∀ i, i < 12 → cel H (sb v) (so v + j * 12 + i) = (opCells (os j) vk vt vd vp)[i]?) ∧ OpV H vk vt vd vp (os j)) :
    Ret Tryd.prog 6 [v, .int .i64 (m : Int)] H (fun r H' => H = H' ∧ ∃ b, r = .bool b ∧ (b = false → ∀ j, j < m → OpGood (os j))) := by
  have cv := hv.cap
  refine ret_of Tryd.func6 rfl rfl rfl rfl ?_
  intro w0
  refine zrun ?_ ?_
  refine cw_loop (fun j : Nat => [(0, v), (1, .int .i64 (m : Int)), (5, .int .i64 j)]) (fun j H' => H = H' ∧ j ≤ m ∧ ∀ i, i < j → OpGood (os i)) (fun j => m - j) 0 (by repeat (first | exact True.intro | refine ⟨rfl, ?_⟩)) ⟨rfl, Nat.zero_le _, fun i h => by omega⟩ ?_
  rintro j _ ⟨rfl, hj, hall⟩
  refine zrun ?_ ?_
  by_cases h1 : j < m
  · rw [decide_eq_true (show (j : Int) < (m : Int) by omega)]
    refine zrun ?_ ?_
    rw [decide_eq_true (show (m : Int) ≤ (m : Int) by omega)]
    obtain ⟨vk, vt, vd, vp, hq, hV⟩ := hc j h1
    have q7 : cel H (sb v) (so v + j * 12 + 7) = some vk := hq 7 (by omega)
    have q8 : cel H (sb v) (so v + j * 12 + 8) = some vt := hq 8 (by omega)
    have q9 : cel H (sb v) (so v + j * 12 + 9) = some vd := hq 9 (by omega)
    have q11 : cel H (sb v) (so v + j * 12 + 11) = some vp := hq 11 (by omega)
    have s1 := hV.key.sl
    have s2 := hV.tov.sl
    have s3 := hV.data.sl
    refine zrun ?_ ?_
    refine x_load rfl rfl (hpmt (q7)) rfl trivial ?_
    refine zrun ?_ ?_
    by_cases g1 : 60 < (os j).key.length
    · rw [decide_eq_true (show ((os j).key.length : Int) > 60 by omega)]
      refine zrun ?_ ?_
      exact cw_ret1 rfl rfl ⟨rfl, true, rfl, fun e => by cases e⟩
    rw [decide_eq_false (show ¬ ((os j).key.length : Int) > 60 by omega)]
    refine zrun ?_ ?_
    refine x_load rfl rfl (hpmt (q8)) rfl trivial ?_
    refine zrun ?_ ?_
    by_cases g2 : 60 < (os j).to.length
    · rw [decide_eq_true (show ((os j).to.length : Int) > 60 by omega)]
      refine zrun ?_ ?_
      exact cw_ret1 rfl rfl ⟨rfl, true, rfl, fun e => by cases e⟩
    rw [decide_eq_false (show ¬ ((os j).to.length : Int) > 60 by omega)]
    refine zrun ?_ ?_
    refine x_load rfl rfl (hpmt (q9)) rfl trivial ?_
    refine zrun ?_ ?_
    by_cases g3 : 1500 < (os j).data.length
    · rw [decide_eq_true (show ((os j).data.length : Int) > 1500 by omega)]
      refine zrun ?_ ?_
      exact cw_ret1 rfl rfl ⟨rfl, true, rfl, fun e => by cases e⟩
    rw [decide_eq_false (show ¬ ((os j).data.length : Int) > 1500 by omega)]
    refine zrun ?_ ?_
    refine x_load rfl rfl (hpmt (q11)) rfl trivial ?_
    refine zrun ?_ ?_
    refine x_call rfl rfl rfl trivial (law_GreatPairs 30 60 (by omega) hV.pairs) ?_
    rintro _ _ ⟨rfl, b, rfl, hb⟩
    refine ⟨trivial, ?_⟩
    cases b with
    | true =>
      refine zrun ?_ ?_
      exact cw_ret1 rfl rfl ⟨rfl, true, rfl, fun e => by cases e⟩
    | false =>
      obtain ⟨hb1, hb2⟩ := hb rfl
      refine zrun ?_ ?_
      refine nw_round (j + 1) (by repeat (first | exact True.intro | refine ⟨rfl, ?_⟩)) ⟨rfl, h1, fun i hi => ?_⟩ (by omega)
      by_cases e : i = j
      · subst e
        exact ⟨by omega, by omega, by omega, hb1, hb2⟩
      · exact hall i (by omega)
  · obtain rfl : j = m := by omega
    rw [decide_eq_false (show ¬ (j : Int) < (j : Int) by omega)]
    refine zrun ?_ ?_
    exact cw_ret1 rfl rfl ⟨rfl, _, rfl, fun _ => hall⟩
end Go.Proofs.YtbcflfkajkmkdaaDoor.X
