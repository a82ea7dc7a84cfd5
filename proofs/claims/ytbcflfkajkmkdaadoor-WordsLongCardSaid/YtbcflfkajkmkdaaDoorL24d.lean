/- Chapter 24, the laws: how long a line is: the walk. -/
import Derived.Test.YtbcflfkajkmkdaaDoorL24b
import Derived.Test.YtbcflfkajkmkdaaDoorKw3
namespace Go.Proofs.YtbcflfkajkmkdaaDoor.X
open Go Go.Proofs Go.RowKit
set_option linter.unusedVariables false
set_option linter.unusedSimpArgs false
set_option maxRecDepth 10000
set_option maxHeartbeats 16000000

theorem dgt_le (u : Nat) (h : u < 18446744073709551616) : dgt u ≤ 20 := by
  by_cases h0 : u = 0
  · rw [h0, dgt_zero]; omega
  · rw [← nDigits_dgt u h0]
    exact Lib.nDigits_le20 u h
theorem tdiv_abs (x : Int) : (x.tdiv 10).natAbs = x.natAbs / 10 := by rw [Int.natAbs_tdiv]; rfl
theorem tdiv_i64 {x : Int} (h : I64 x) : I64 (x.tdiv 10) := by
  have h1 := tdiv_abs x
  obtain ⟨h0, h2⟩ := h
  constructor <;> omega
def costN : List Nat := [6, 3, 3, 8, 5, 3]
def costB : List Nat := [5, 4, 6]
/-- what the first j numbers add -/
def sumN (o : Opn) (j : Nat) : Nat := ((List.zip costN [o.slot, o.a, o.b, o.cursor, o.tag, o.n]).take j |>.map fun x => lenI x.1 x.2).sum
def sumB (o : Opn) (j : Nat) : Nat := ((List.zip costB [o.key, o.to, o.data]).take j |>.map fun x => lenB x.1 x.2).sum
theorem sumN_all (o : Opn) : sumN o 6 = lenI 6 o.slot + lenI 3 o.a + lenI 3 o.b + lenI 8 o.cursor + lenI 5 o.tag + lenI 3 o.n := by simp [sumN, costN]; omega
theorem sumB_all (o : Opn) : sumB o 3 = lenB 5 o.key + lenB 4 o.to + lenB 6 o.data := by simp [sumB, costB]; omega
theorem sum_take_succ {α : Type} (f : α → Nat) (l : List α) (j : Nat) (x : α) (h : l[j]? = some x) : ((l.take (j + 1)).map f).sum = ((l.take j).map f).sum + f x := by
  rw [List.take_add_one, h, List.map_append, List.sum_append]
  simp

def numsL (o : Opn) : List (Nat × Int) := List.zip costN [o.slot, o.a, o.b, o.cursor, o.tag, o.n]
theorem sumN_step {o : Opn} {j : Nat} {x : Nat × Int} (h : (numsL o)[j]? = some x) : sumN o (j + 1) = sumN o j + lenI x.1 x.2 := sum_take_succ (fun x : Nat × Int => lenI x.1 x.2) _ j x h
theorem numsL_ok {o : Opn} (ho : OpOk o) {x : Nat × Int} (h : x ∈ numsL o) : I64 x.2 ∧ x.1 ≤ 8 := by
  simp only [numsL, costN, List.zip_cons_cons, List.zip_nil_right, List.mem_cons, List.not_mem_nil, or_false] at h
  rcases h with rfl | rfl | rfl | rfl | rfl | rfl
  · exact ⟨ho.slot, by dsimp only; omega⟩
  · exact ⟨ho.a, by dsimp only; omega⟩
  · exact ⟨ho.b, by dsimp only; omega⟩
  · exact ⟨ho.cursor, by dsimp only; omega⟩
  · exact ⟨ho.tag, by dsimp only; omega⟩
  · exact ⟨ho.n, by dsimp only; omega⟩
theorem lenI_le {c : Nat} {n : Int} (h : I64 n) : lenI c n ≤ c + 21 := by
  have := dgt_le n.natAbs (by have := h.1; have := h.2; omega)
  unfold lenI
  split
  · omega
  · split <;> omega
theorem sumN_le {o : Opn} (ho : OpOk o) : ∀ j, j ≤ 6 → sumN o j ≤ 30 * j := by
  intro j
  induction j with
  | zero => intro _; simp [sumN]
  | succ j ih =>
    intro hj
    obtain ⟨x, hx⟩ : ∃ x, (numsL o)[j]? = some x := ⟨_, List.getElem?_eq_getElem (show j < (numsL o).length by simp [numsL, costN]; omega)⟩
    have h1 := numsL_ok ho (List.mem_of_getElem? hx)
    have h2 := lenI_le (c := x.1) h1.1
    have h3 := ih (by omega)
    rw [sumN_step hx]
    omega
def bytsL (o : Opn) : List (Nat × Bytes) := List.zip costB [o.key, o.to, o.data]
theorem sumB_step {o : Opn} {j : Nat} {x : Nat × Bytes} (h : (bytsL o)[j]? = some x) : sumB o (j + 1) = sumB o j + lenB x.1 x.2 := sum_take_succ (fun x : Nat × Bytes => lenB x.1 x.2) _ j x h
theorem sumB_le {o : Opn} (hg : OpGood o) : ∀ j, j ≤ 3 → sumB o j ≤ 3100 * j := by
  intro j
  induction j with
  | zero => intro _; simp [sumB]
  | succ j ih =>
    intro hj
    obtain ⟨x, hx⟩ : ∃ x, (bytsL o)[j]? = some x := ⟨_, List.getElem?_eq_getElem (show j < (bytsL o).length by simp [bytsL, costB]; omega)⟩
    have hm := List.mem_of_getElem? hx
    have h7 := hg.key
    have h8 := hg.tol
    have h9 := hg.data
    have h2 : lenB x.1 x.2 ≤ 3100 := by
      simp only [bytsL, costB, List.zip_cons_cons, List.zip_nil_right, List.mem_cons, List.not_mem_nil, or_false] at hm
      rcases hm with rfl | rfl | rfl <;> (unfold lenB; dsimp only; split <;> omega)
    have h3 := ih (by omega)
    rw [sumB_step hx]
    omega
/-- what the first j pairs add, without their values' digits -/
def sumP (o : Opn) (j : Nat) : Nat := ((o.pairs.take j).map fun p => 7 + 2 * p.1.length + (if p.2 = 0 then 1 else 0)).sum
theorem sumP_step {o : Opn} {j : Nat} {x : Pr} (h : o.pairs[j]? = some x) : sumP o (j + 1) = sumP o j + (7 + 2 * x.1.length + (if x.2 = 0 then 1 else 0)) := sum_take_succ (fun p : Pr => 7 + 2 * p.1.length + (if p.2 = 0 then 1 else 0)) _ j x h
theorem sumP_all (o : Opn) : sumP o o.pairs.length = lenP o.pairs := by unfold sumP lenP; rw [List.take_length]
theorem sumP_le {o : Opn} (hg : OpGood o) : ∀ j, j ≤ o.pairs.length → sumP o j ≤ 130 * j := by
  intro j
  induction j with
  | zero => intro _; simp [sumP]
  | succ j ih =>
    intro hj
    obtain ⟨x, hx⟩ := getp (l := o.pairs) (j := j) (by omega)
    have h1 := hg.each x (List.mem_of_getElem? hx)
    have h3 := ih (by omega)
    rw [sumP_step hx]
    split <;> omega
/-- the numbers whose digits are told: the value, the first j pairs' -/
def valsO (o : Opn) (j : Nat) : List Int := o.val :: (o.pairs.take j).map (·.2)
def vcs (l : List Int) : List Value := l.map (Value.int .u64 ·)
theorem vals_step {o : Opn} {j : Nat} {x : Pr} (h : o.pairs[j]? = some x) : vcs (valsO o (j + 1)) = vcs (valsO o j) ++ [.int .u64 x.2] := by
  unfold vcs valsO
  rw [List.take_add_one, h]
  simp
theorem vals_length {o : Opn} {j : Nat} (h : j ≤ o.pairs.length) : (valsO o j).length = j + 1 := by simp [valsO]; omega
theorem vals_ok {o : Opn} (ho : OpOk o) {j : Nat} {v : Int} (h : v ∈ valsO o j) : U64 v := by
  unfold valsO at h
  rw [List.mem_cons, List.mem_map] at h
  rcases h with rfl | ⟨p, hp, rfl⟩
  · exact ho.val
  · exact ho.pairs p (List.mem_of_mem_take hp)
def sumV (l : List Int) (j : Nat) : Nat := ((l.take j).map fun v => dgt v.toNat).sum
theorem sumV_step {l : List Int} {j : Nat} {x : Int} (h : l[j]? = some x) : sumV l (j + 1) = sumV l j + dgt x.toNat := sum_take_succ (fun v : Int => dgt v.toNat) _ j x h
theorem sumV_all (o : Opn) : sumV (valsO o o.pairs.length) (o.pairs.length + 1) = dgt o.val.toNat + lenV o.pairs := by
  unfold sumV valsO lenV
  rw [List.take_length, List.take_of_length_le (by simp), List.map_cons, List.map_map, List.sum_cons]
  rfl
theorem sumV_le {l : List Int} (h : ∀ v ∈ l, U64 v) : ∀ j, j ≤ l.length → sumV l j ≤ 20 * j := by
  intro j
  induction j with
  | zero => intro _; simp [sumV]
  | succ j ih =>
    intro hj
    obtain ⟨x, hx⟩ := getp (l := l) (j := j) (by omega)
    have h1 := h x (List.mem_of_getElem? hx)
    have h2 := dgt_le x.toNat (by have := h1.1; have := h1.2; omega)
    have h3 := ih (by omega)
    rw [sumV_step hx]
    omega
theorem tdiv_u64 {x : Int} (h : U64 x) : U64 (x.tdiv 10) ∧ (x.tdiv 10).toNat = x.toNat / 10 := by
  obtain ⟨h0, h1⟩ := h
  rw [Int.tdiv_eq_ediv_of_nonneg h0]
  exact ⟨⟨by omega, by omega⟩, by omega⟩
theorem walk_WordsLong {vk vt vd vp : Value} {o : Opn} {H : Heap} (hV : OpV H vk vt vd vp o) (ho : OpOk o) (hL : Laid24 H) :
    Ret Tryd.prog 4 [.agg (opCells o vk vt vd vp).toArray] H (Yes H) := by
  have oco := oneC_op (o := o) (isSl_oneC hV.key.sl) (isSl_oneC hV.tov.sl) (isSl_oneC hV.data.sl) (isSl_oneC hV.pairs.sl)
  have s7 := hV.key.sl
  have s8 := hV.tov.sl
  have s9 := hV.data.sl
  have s11 := hV.pairs.sl
  refine ret_of Tryd.func4 rfl rfl rfl rfl ?_
  intro w0
  refine zrun ?_ ?_
  refine x_box (cs := opCells o vk vt vd vp) rfl rfl rfl trivial ?_
  intro H1 hn1
  refine ⟨trivial, ?_⟩
  have hs1 := hn1.size
  have hBo := hn1.blk
  refine zrun ?_ ?_
  refine x_loads (cs := opCells o vk vt vd vp) rfl rfl rfl (hpmt (hBo.cels 0 12 (by simp [opCells]))) rfl trivial ?_
  refine zrun ?_ ?_
  refine x_buildSliceS1 (c := opCells o vk vt vd vp) (by rfl) rfl rfl (by omega) (by rfl) rfl trivial ?_
  intro H2 hn2
  refine ⟨trivial, ?_⟩
  have hs2 := hn2.size
  have hk02 := hn1.keep.non_trans hn2.keep
  have hL2 := hL.keepN hk02
  have hB2 := hBo.keep hn2.keep (fun h => h)
  have hV2 := hV.keepN hk02
  refine zrun ?_ ?_
  refine x_call rfl rfl rfl trivial (law_GreatOps 1 (by omega) (isSl_some (b := H1.size) (o := 0) (n := 1) (c := 1) (by omega) (by omega)) (fun _ => o) (fun j hj => ⟨vk, vt, vd, vp, fun i hi => by
    obtain rfl : j = 0 := by omega
    show cel H2 H1.size (0 + 0 * 12 + i) = _
    rw [hn2.blk.cel, show 0 + 0 * 12 + i = i by omega], hV2⟩)) ?_
  rintro _ _ ⟨rfl, g, rfl, hg⟩
  refine ⟨trivial, ?_⟩
  cases g with
  | true =>
    refine zrun ?_ ?_
    refine x_call rfl rfl rfl trivial (law_awake hL2) ?_
    rintro _ H4 ⟨hk4, rfl⟩
    refine ⟨trivial, ?_⟩
    refine zrun ?_ ?_
    exact cw_ret1 rfl rfl ⟨rfl, hk02.non_trans hk4⟩
  | false =>
    have hgo : OpGood o := hg rfl 0 (by omega)
    have lo := low_bd o.kind (m := 22) (by omega)
    have k1 : cel H2 H.size 0 = some (.int .i64 o.kind) := by rw [hB2.cel]; rfl
    refine zrun ?_ ?_
    refine x_load rfl rfl (hpmt (k1)) rfl trivial ?_
    refine zrun ?_ ?_
    refine x_call rfl rfl rfl trivial (law_LowF o.kind 22 (by omega) H2) ?_
    rintro _ _ ⟨rfl, rfl⟩
    refine ⟨trivial, ?_⟩
    refine zrun ?_ ?_
    refine x_store rfl rfl rfl rfl hB2 (by simp [opCells]) trivial ?_
    intro H3 hB3 hk3 hs3
    refine ⟨trivial, ?_⟩
    obtain ⟨o', ho'⟩ : ∃ o' : Opn, o' = { o with kind := 1 + low o.kind 22 } := ⟨_, rfl⟩
    have hB3' : Blk H3 H.size (opCells o' vk vt vd vp) := by rw [ho']; exact hB3
    have hk03 : Keep Non H H3 := hk02.old hk3 (fun z hz e => by omega)
    have hL3 := hL.keepN hk03
    have hko : 1 ≤ o'.kind ∧ o'.kind < 23 := by rw [ho']; exact ⟨by show 1 ≤ 1 + low _ _; omega, by show 1 + low _ _ < 23; omega⟩
    have hoo : OpOk o' := by rw [ho']; exact ho.withKind _
    have hgo' : OpGood o' := by rw [ho']; exact hgo.withKind _
    have hVo : ∀ {H'}, Keep Non H H' → OpV H' vk vt vd vp o' := fun k => by rw [ho']; exact (hV.keepN k).withKind _
    have s7' : IsSl vk o'.key.length := by rw [ho']; exact s7
    have s8' : IsSl vt o'.to.length := by rw [ho']; exact s8
    have s9' : IsSl vd o'.data.length := by rw [ho']; exact s9
    have s11' : IsSl vp o'.pairs.length := by rw [ho']; exact s11
    clear ho' hB3 k1 hgo hg hB2 hBo s7 s8 s9 s11
    have k0 : cel H3 H.size 0 = some (.int .i64 o'.kind) := by rw [hB3'.cel]; rfl
    refine zrun ?_ ?_
    refine x_load rfl rfl (hpmt (k0)) rfl trivial ?_
    refine zrun ?_ ?_
    refine x_build (cs := opCells { kind := o'.kind } (.slice none 0 0) (.slice none 0 0) (.slice none 0 0) (.slice none 0 0)) rfl rfl rfl (by simp [oneC, Value.oneCell']) rfl trivial ?_
    refine zrun ?_ ?_
    refine x_call rfl rfl rfl trivial (law_Say (opv_zero _ o'.kind) (OpOk.zero o'.kind) (good_small (by simp) rfl rfl rfl) ⟨by show _ ≤ o'.kind; omega, by show o'.kind ≤ _; omega⟩ hL3) ?_
    rintro _ H4 ⟨hk4, rfl⟩
    refine ⟨trivial, ?_⟩
    rw [say_word hko.1 hko.2]
    have hnl := nameOf_length o'.kind
    have hB4 := hB3'.keep hk4 (fun h => h)
    have hk04 := hk03.non_trans hk4
    have q1 : cel H4 H.size 1 = some (.int .i64 o'.slot) := by rw [hB4.cel]; rfl
    have q2 : cel H4 H.size 2 = some (.int .i64 o'.a) := by rw [hB4.cel]; rfl
    have q3 : cel H4 H.size 3 = some (.int .i64 o'.b) := by rw [hB4.cel]; rfl
    have q4 : cel H4 H.size 4 = some (.int .i64 o'.cursor) := by rw [hB4.cel]; rfl
    have q5 : cel H4 H.size 5 = some (.int .i64 o'.tag) := by rw [hB4.cel]; rfl
    have q6 : cel H4 H.size 6 = some (.int .i64 o'.n) := by rw [hB4.cel]; rfl
    refine zrun ?_ ?_
    refine x_len_str rfl rfl rfl trivial ?_
    rw [strV_size]
    refine zrun ?_ ?_
    refine x_load rfl rfl (hpmt (q1)) rfl trivial ?_
    refine zrun ?_ ?_
    refine x_load rfl rfl (hpmt (q2)) rfl trivial ?_
    refine zrun ?_ ?_
    refine x_load rfl rfl (hpmt (q3)) rfl trivial ?_
    refine zrun ?_ ?_
    refine x_load rfl rfl (hpmt (q4)) rfl trivial ?_
    refine zrun ?_ ?_
    refine x_load rfl rfl (hpmt (q5)) rfl trivial ?_
    refine zrun ?_ ?_
    refine x_load rfl rfl (hpmt (q6)) rfl trivial ?_
    refine zrun ?_ ?_
    refine x_buildSlice (vs := [.int .i64 o'.slot, .int .i64 o'.a, .int .i64 o'.b, .int .i64 o'.cursor, .int .i64 o'.tag, .int .i64 o'.n]) rfl rfl rfl rfl (by omega) (by simp [oneC, Value.oneCell']) rfl trivial ?_
    intro H5 hn5
    refine ⟨trivial, ?_⟩
    have hs5 := hn5.size
    have sN : IsSl (.slice (some ⟨H4.size, 0, none⟩) 6 6) 6 := isSl_some (by omega) (by omega)
    have hwc : ∀ (j : Nat) (x : Nat × Int), (numsL o')[j]? = some x → cel H5 H4.size (0 + j) = some (.int .i64 x.2) := fun j x hx => by
      rw [Nat.zero_add, hn5.blk.cel]
      match j, hx with
      | 0, hx => cases hx; rfl
      | 1, hx => cases hx; rfl
      | 2, hx => cases hx; rfl
      | 3, hx => cases hx; rfl
      | 4, hx => cases hx; rfl
      | 5, hx => cases hx; rfl
      | n + 6, hx => simp [numsL, costN] at hx
    have hcc : ∀ (j : Nat) (x : Nat × Int), (numsL o')[j]? = some x → costN[j]? = some x.1 := fun j x hx => by
      match j, hx with
      | 0, hx => cases hx; rfl
      | 1, hx => cases hx; rfl
      | 2, hx => cases hx; rfl
      | 3, hx => cases hx; rfl
      | 4, hx => cases hx; rfl
      | 5, hx => cases hx; rfl
      | n + 6, hx => simp [numsL, costN] at hx
    refine zrun ?_ ?_
    refine cw_loop (fun t : Nat × Nat => [(1, ptr H.size 0), (3, strV (nameOf o'.kind)), (4, .int .i64 (t.2 : Nat)), (5, .slice (some ⟨H4.size, 0, none⟩) 6 6), (6, .int .i64 (t.1 : Nat))]) (fun t H' => t.1 ≤ 6 ∧ Keep Non H5 H' ∧ t.2 = (nameOf o'.kind).length + sumN o' t.1) (fun t => 6 - t.1) (0, (nameOf o'.kind).length) (by repeat (first | exact True.intro | refine ⟨rfl, ?_⟩)) ⟨by simp, Keep.refl _ _, by simp [sumN]⟩ ?_
    rintro ⟨j, w⟩ H6 ⟨hj, hk6, hw⟩
    simp only at hj hw
    dsimp only
    have hsn := sumN_le hoo j hj
    refine zrun ?_ ?_
    refine cw_cond rfl (fun h1 => ?_) (fun h1 => ?_) <;> (try simp at h1)
    · obtain ⟨x, hx⟩ : ∃ x, (numsL o')[j]? = some x := ⟨_, List.getElem?_eq_getElem (show j < (numsL o').length by simp [numsL, costN]; omega)⟩
      have hx1 := numsL_ok hoo (List.mem_of_getElem? hx)
      have hst := sumN_step hx
      have hdl := dgt_le x.2.natAbs (by have := hx1.1.1; have := hx1.1.2; omega)
      have hcj := hk6.cel (hwc j x hx) (fun h => h)
      refine zrun ?_ ?_
      refine x_load rfl rfl (hpmt (hcj)) rfl trivial ?_
      refine zrun ?_ ?_
      by_cases hx0 : x.2 = 0
      · rw [show (x.2 == 0) = true by simp [hx0]]
        refine zrun ?_ ?_
        refine nw_round (j + 1, w) (by repeat (first | exact True.intro | refine ⟨rfl, ?_⟩)) ⟨by show j + 1 ≤ 6; omega, hk6, ?_⟩ (by show 6 - (j + 1) < 6 - j; omega)
        show w = _ + sumN o' (j + 1)
        rw [hst, hw]
        unfold lenI
        rw [if_pos hx0]
        rfl
      · rw [show (x.2 == 0) = false by simp [hx0]]
        refine zrun ?_ ?_
        refine x_load rfl rfl (hpmt (hcj)) rfl trivial ?_
        refine zrun ?_ ?_
        refine cw_loop (fun t : Nat × Int => [(1, ptr H.size 0), (3, strV (nameOf o'.kind)), (4, .int .i64 (t.1 : Nat)), (5, .slice (some ⟨H4.size, 0, none⟩) 6 6), (6, .int .i64 (j : Nat)), (7, .int .i64 t.2)]) (fun t H' => H6 = H' ∧ I64 t.2 ∧ t.1 + dgt t.2.natAbs = w + dgt x.2.natAbs) (fun t => t.2.natAbs) (w, x.2) (by repeat (first | exact True.intro | refine ⟨rfl, ?_⟩)) ⟨rfl, hx1.1, rfl⟩ ?_
        rintro ⟨u, y⟩ _ ⟨rfl, hy, hu⟩
        simp only at hy hu
        dsimp only
        refine zrun ?_ ?_
        by_cases hy0 : y = 0
        · rw [show (y != 0) = false by simp [hy0]]
          subst hy0
          have hu' : u = w + dgt x.2.natAbs := by
            rw [show (0 : Int).natAbs = 0 from rfl, dgt_zero] at hu
            omega
          refine zrun ?_ ?_
          refine x_load rfl rfl (hpmt (hcj)) rfl trivial ?_
          refine zrun ?_ ?_
          by_cases hn : x.2 < 0
          · rw [decide_eq_true hn]
            refine zrun ?_ ?_
            refine x_buildSlice (vs := costN.map fun c => .int .i64 (c : Nat)) rfl rfl rfl rfl (by omega) (by simp [costN, oneC, Value.oneCell']) rfl trivial ?_
            intro H7 hn7
            refine ⟨trivial, ?_⟩
            have hcc7 : cel H7 H6.size (0 + j) = some (.int .i64 (x.1 : Nat)) := by rw [Nat.zero_add, hn7.blk.cel, List.getElem?_map, hcc j x hx]; rfl
            have sM : IsSl (.slice (some ⟨H6.size, 0, none⟩) 6 6) 6 := isSl_some (by omega) (by omega)
            refine zrun ?_ ?_
            refine x_load rfl rfl (hpmt (hcc7)) rfl trivial ?_
            refine zrun ?_ ?_
            refine nw_round (j + 1, (u + 1) + x.1) (by repeat (first | exact True.intro | refine ⟨rfl, ?_⟩)) ⟨by show j + 1 ≤ 6; omega, hk6.non_trans hn7.keep, ?_⟩ (by show 6 - (j + 1) < 6 - j; omega)
            show (u + 1) + x.1 = _ + sumN o' (j + 1)
            rw [hst, hu', hw]
            unfold lenI
            rw [if_neg hx0, if_pos hn]
            omega
          · rw [decide_eq_false hn]
            refine zrun ?_ ?_
            refine x_buildSlice (vs := costN.map fun c => .int .i64 (c : Nat)) rfl rfl rfl rfl (by omega) (by simp [costN, oneC, Value.oneCell']) rfl trivial ?_
            intro H7 hn7
            refine ⟨trivial, ?_⟩
            have hcc7 : cel H7 H6.size (0 + j) = some (.int .i64 (x.1 : Nat)) := by rw [Nat.zero_add, hn7.blk.cel, List.getElem?_map, hcc j x hx]; rfl
            have sM : IsSl (.slice (some ⟨H6.size, 0, none⟩) 6 6) 6 := isSl_some (by omega) (by omega)
            refine zrun ?_ ?_
            refine x_load rfl rfl (hpmt (hcc7)) rfl trivial ?_
            refine zrun ?_ ?_
            refine nw_round (j + 1, u + x.1) (by repeat (first | exact True.intro | refine ⟨rfl, ?_⟩)) ⟨by show j + 1 ≤ 6; omega, hk6.non_trans hn7.keep, ?_⟩ (by show 6 - (j + 1) < 6 - j; omega)
            show u + x.1 = _ + sumN o' (j + 1)
            rw [hst, hu', hw]
            unfold lenI
            rw [if_neg hx0, if_neg hn]
            omega
        · rw [show (y != 0) = true by simp [hy0]]
          have hd := dgt_pos (u := y.natAbs) (by omega)
          refine zrun ?_ ?_
          refine x_quo rfl rfl rfl (by decide) rfl trivial ?_
          have ht := tdiv_i64 hy
          have hta := tdiv_abs y
          rw [wrap_i64 ht.1 ht.2]
          refine zrun ?_ ?_
          exact nw_round (u + 1, y.tdiv 10) (by repeat (first | exact True.intro | refine ⟨rfl, ?_⟩)) ⟨rfl, ht, by show u + 1 + dgt (y.tdiv 10).natAbs = _; rw [hta]; omega⟩ (by show (y.tdiv 10).natAbs < y.natAbs; omega)
    · obtain rfl : j = 6 := by omega
      clear h1 hwc sN
      have hB6 := (hB4.keep hn5.keep (fun h => h)).keep hk6 (fun h => h)
      have hk06 := (hk04.non_trans hn5.keep).non_trans hk6
      have r7 : cel H6 H.size 7 = some vk := by rw [hB6.cel]; rfl
      have r8 : cel H6 H.size 8 = some vt := by rw [hB6.cel]; rfl
      have r9 : cel H6 H.size 9 = some vd := by rw [hB6.cel]; rfl
      refine zrun ?_ ?_
      refine x_load rfl rfl (hpmt (r7)) rfl trivial ?_
      refine zrun ?_ ?_
      refine x_load rfl rfl (hpmt (r8)) rfl trivial ?_
      refine zrun ?_ ?_
      refine x_load rfl rfl (hpmt (r9)) rfl trivial ?_
      refine zrun ?_ ?_
      refine x_buildSlice (vs := [.int .i64 o'.key.length, .int .i64 o'.to.length, .int .i64 o'.data.length]) rfl rfl rfl rfl (by omega) (by simp [oneC, Value.oneCell']) rfl trivial ?_
      intro H7 hn7
      refine ⟨trivial, ?_⟩
      have hs7 := hn7.size
      have sB : IsSl (.slice (some ⟨H6.size, 0, none⟩) 3 3) 3 := isSl_some (by omega) (by omega)
      have hwb : ∀ (j : Nat) (x : Nat × Bytes), (bytsL o')[j]? = some x → cel H7 H6.size (0 + j) = some (.int .i64 x.2.length) ∧ x.2.length ≤ 1500 ∧ x.1 ≤ 6 := fun j x hx => by
        have h7 := hgo'.key
        have h8 := hgo'.tol
        have h9 := hgo'.data
        rw [Nat.zero_add, hn7.blk.cel]
        match j, hx with
        | 0, hx => cases hx; exact ⟨rfl, by dsimp only; omega, by dsimp only; omega⟩
        | 1, hx => cases hx; exact ⟨rfl, by dsimp only; omega, by dsimp only; omega⟩
        | 2, hx => cases hx; exact ⟨rfl, by dsimp only; omega, by dsimp only; omega⟩
        | n + 3, hx => simp [bytsL, costB] at hx
      have hcb : ∀ (j : Nat) (x : Nat × Bytes), (bytsL o')[j]? = some x → costB[j]? = some x.1 := fun j x hx => by
        match j, hx with
        | 0, hx => cases hx; rfl
        | 1, hx => cases hx; rfl
        | 2, hx => cases hx; rfl
        | n + 3, hx => simp [bytsL, costB] at hx
      refine zrun ?_ ?_
      refine cw_loop (fun t : Nat × Nat => [(1, ptr H.size 0), (3, strV (nameOf o'.kind)), (4, .int .i64 (t.2 : Nat)), (8, .slice (some ⟨H6.size, 0, none⟩) 3 3), (9, .int .i64 (t.1 : Nat))]) (fun t H' => t.1 ≤ 3 ∧ Keep Non H7 H' ∧ t.2 = (nameOf o'.kind).length + sumN o' 6 + sumB o' t.1) (fun t => 3 - t.1) (0, w) (by repeat (first | exact True.intro | refine ⟨rfl, ?_⟩)) ⟨by simp, Keep.refl _ _, by simp [sumB, hw]⟩ ?_
      clear hw
      rintro ⟨j, w⟩ H8 ⟨hj, hk8, hw⟩
      simp only at hj hw
      dsimp only
      have hsb := sumB_le hgo' j hj
      refine zrun ?_ ?_
      refine cw_cond rfl (fun h1 => ?_) (fun h1 => ?_) <;> (try simp at h1)
      · obtain ⟨x, hx⟩ : ∃ x, (bytsL o')[j]? = some x := ⟨_, List.getElem?_eq_getElem (show j < (bytsL o').length by simp [bytsL, costB]; omega)⟩
        have hst := sumB_step hx
        obtain ⟨hcj0, hxl, hxc⟩ := hwb j x hx
        have hcj := hk8.cel hcj0 (fun h => h)
        refine zrun ?_ ?_
        refine x_load rfl rfl (hpmt (hcj)) rfl trivial ?_
        refine zrun ?_ ?_
        by_cases hx0 : x.2 = []
        · rw [show decide (((x.2.length : Nat) : Int) > 0) = false by simp [hx0]]
          refine zrun ?_ ?_
          refine nw_round (j + 1, w) (by repeat (first | exact True.intro | refine ⟨rfl, ?_⟩)) ⟨by show j + 1 ≤ 3; omega, hk8, ?_⟩ (by show 3 - (j + 1) < 3 - j; omega)
          show w = _ + sumN o' 6 + sumB o' (j + 1)
          rw [hst, hw]
          unfold lenB
          rw [if_pos hx0]
          rfl
        · have hpos : 0 < x.2.length := List.length_pos_iff.2 hx0
          rw [decide_eq_true (show ((x.2.length : Nat) : Int) > 0 by omega)]
          refine zrun ?_ ?_
          refine cw_held (fun _ _ => True) ⟨[1, 4, 9], []⟩ (.op 0 (.op 2 (.op 6 (.op 7 (.op 8 (.alt (.op 1 (.op 3 (.alt (.op 4 (.op 5 (.op 9 (.op 10 (.op 11 (.op 12 (.nil))))))) (.op 9 (.op 10 (.op 4 (.op 5 (.op 11 (.op 12 (.nil)))))))))) (.op 9 (.op 10 (.op 1 (.op 3 (.op 4 (.op 5 (.op 11 (.op 12 (.nil))))))))))))))) panicOk_body mixed (by kernel_rfl) ?_
          refine zhrun ?_ ?_
          refine x_alt ?_ ?_
          · refine x_buildSlice (vs := costB.map fun c => .int .i64 (c : Nat)) rfl rfl rfl rfl (by omega) (by simp [costB, oneC, Value.oneCell']) rfl ⟨rfl, rfl⟩ ?_
            intro H9 hn9
            refine ⟨okm_nil rfl, ?_⟩
            have hcc9 : cel H9 H8.size (0 + j) = some (.int .i64 (x.1 : Nat)) := by rw [Nat.zero_add, hn9.blk.cel, List.getElem?_map, hcb j x hx]; rfl
            have sM : IsSl (.slice (some ⟨H8.size, 0, none⟩) 3 3) 3 := isSl_some (by omega) (by omega)
            have hcj9 := hn9.keep.cel hcj (fun h => h)
            refine zhrun ?_ ?_
            refine x_alt ?_ ?_
            · refine x_load_e rfl rfl hcc9 rfl ⟨rfl, rfl⟩ ?_
              refine zhrun ?_ ?_
              refine x_load_e rfl rfl hcj9 rfl ⟨rfl, rfl⟩ ?_
              refine zhrun ?_ ?_
              refine zrun ?_ ?_
              refine nw_round (j + 1, w + x.1 + 2 * x.2.length) (by repeat (first | exact True.intro | refine ⟨rfl, ?_⟩)) ⟨by show j + 1 ≤ 3; omega, hk8.non_trans hn9.keep, ?_⟩ (by show 3 - (j + 1) < 3 - j; omega)
              show w + x.1 + 2 * x.2.length = _ + sumN o' 6 + sumB o' (j + 1)
              rw [hst, hw]
              unfold lenB
              rw [if_neg hx0]
              omega
            · refine x_load_e rfl rfl hcj9 rfl ⟨rfl, rfl⟩ ?_
              refine zhrun ?_ ?_
              refine x_load_e rfl rfl hcc9 rfl ⟨rfl, rfl⟩ ?_
              refine zhrun ?_ ?_
              refine zrun ?_ ?_
              refine nw_round (j + 1, w + x.1 + 2 * x.2.length) (by repeat (first | exact True.intro | refine ⟨rfl, ?_⟩)) ⟨by show j + 1 ≤ 3; omega, hk8.non_trans hn9.keep, ?_⟩ (by show 3 - (j + 1) < 3 - j; omega)
              show w + x.1 + 2 * x.2.length = _ + sumN o' 6 + sumB o' (j + 1)
              rw [hst, hw]
              unfold lenB
              rw [if_neg hx0]
              omega
          · refine x_load_e rfl rfl hcj rfl ⟨rfl, rfl⟩ ?_
            refine zhrun ?_ ?_
            refine x_buildSlice (vs := costB.map fun c => .int .i64 (c : Nat)) rfl rfl rfl rfl (by omega) (by simp [costB, oneC, Value.oneCell']) rfl ⟨rfl, rfl⟩ ?_
            intro H9 hn9
            refine ⟨okm_nil rfl, ?_⟩
            have hcc9 : cel H9 H8.size (0 + j) = some (.int .i64 (x.1 : Nat)) := by rw [Nat.zero_add, hn9.blk.cel, List.getElem?_map, hcb j x hx]; rfl
            have sM : IsSl (.slice (some ⟨H8.size, 0, none⟩) 3 3) 3 := isSl_some (by omega) (by omega)
            have hcj9 := hn9.keep.cel hcj (fun h => h)
            refine zhrun ?_ ?_
            refine x_load_e rfl rfl hcc9 rfl ⟨rfl, rfl⟩ ?_
            refine zhrun ?_ ?_
            refine zrun ?_ ?_
            refine nw_round (j + 1, w + x.1 + 2 * x.2.length) (by repeat (first | exact True.intro | refine ⟨rfl, ?_⟩)) ⟨by show j + 1 ≤ 3; omega, hk8.non_trans hn9.keep, ?_⟩ (by show 3 - (j + 1) < 3 - j; omega)
            show w + x.1 + 2 * x.2.length = _ + sumN o' 6 + sumB o' (j + 1)
            rw [hst, hw]
            unfold lenB
            rw [if_neg hx0]
            omega
      · obtain rfl : j = 3 := by omega
        clear h1 hwb hcb sB
        have hB8 := (hB6.keep hn7.keep (fun h => h)).keep hk8 (fun h => h)
        have hk08 := (hk06.non_trans hn7.keep).non_trans hk8
        have r10 : cel H8 H.size 10 = some (.int .u64 o'.val) := by rw [hB8.cel]; rfl
        refine zrun ?_ ?_
        refine x_load rfl rfl (hpmt (r10)) rfl trivial ?_
        refine zrun ?_ ?_
        refine x_buildSlice (vs := [.int .u64 o'.val]) rfl rfl rfl rfl (by omega) (by simp [oneC, Value.oneCell']) rfl trivial ?_
        intro H9 hn9
        refine ⟨trivial, ?_⟩
        have hk09 := hk08.non_trans hn9.keep
        have hB9 := hB8.keep hn9.keep (fun h => h)
        have s10 : cel H9 H.size 10 = some (.int .u64 o'.val) := by rw [hB9.cel]; rfl
        have hOv : Own 1 H9 (.slice (some ⟨H8.size, 0, none⟩) 1 1) 1 [.int .u64 o'.val] := Own.new hn9 rfl (by omega)
        have hfv : Fresh H8 (.slice (some ⟨H8.size, 0, none⟩) 1 1) := Fresh.mk_ _ _ _
        refine zrun ?_ ?_
        refine x_load rfl rfl (hpmt (s10)) rfl trivial ?_
        refine zrunc ?_ ?_
        refine cw_cut (fun w2 : Int => [(1, ptr H.size 0), (3, strV (nameOf o'.kind)), (4, .int .i64 w2), (10, .slice (some ⟨H8.size, 0, none⟩) 1 1)]) (fun w2 H' => H9 = H' ∧ w2 = (w : Int) + (if o'.val = 0 then 0 else 5)) ?_ ?_
        · by_cases hv0 : o'.val = 0
          · rw [show (o'.val != 0) = false by simp [hv0]]
            refine zrun ?_ ?_
            exact nw_meet (w : Int) (by repeat (first | exact True.intro | refine ⟨rfl, ?_⟩)) ⟨rfl, by simp [hv0]⟩
          · rw [show (o'.val != 0) = true by simp [hv0]]
            refine zrun ?_ ?_
            exact nw_meet ((w : Int) + 5) (by repeat (first | exact True.intro | refine ⟨rfl, ?_⟩)) ⟨rfl, by simp [hv0]⟩
        rintro w2 _ ⟨rfl, hw2⟩
        have hw2b : 0 ≤ w2 ∧ w2 ≤ 20000 := by split at hw2 <;> omega
        have hgp := hgo'.pairs
        refine zrun ?_ ?_
        refine cw_loop (fun t : Nat × Int × Value => [(1, ptr H.size 0), (3, strV (nameOf o'.kind)), (4, .int .i64 t.2.1), (10, t.2.2), (11, .int .i64 (t.1 : Nat))]) (fun t H' => t.1 ≤ o'.pairs.length ∧ Keep Non H8 H' ∧ Own 1 H' t.2.2 (t.1 + 1) (vcs (valsO o' t.1)) ∧ Fresh H8 t.2.2 ∧ t.2.1 = w2 + sumP o' t.1) (fun t => o'.pairs.length - t.1) (0, w2, .slice (some ⟨H8.size, 0, none⟩) 1 1) (by repeat (first | exact True.intro | refine ⟨rfl, ?_⟩)) ⟨by simp, hn9.keep, hOv, hfv, by simp [sumP]⟩ ?_
        rintro ⟨j, w3, v⟩ Ha ⟨hj, hka, hO, hf, hw3⟩
        simp only at hj hka hO hf hw3
        dsimp only
        have hsp := sumP_le hgo' j hj
        have hBa := hB8.keep hka (fun h => h)
        have hk0a := hk08.non_trans hka
        have r11 : cel Ha H.size 11 = some vp := by rw [hBa.cel]; rfl
        have sv := hO.sl
        refine zrun ?_ ?_
        refine x_load rfl rfl (hpmt (r11)) rfl trivial ?_
        refine zrun ?_ ?_
        refine cw_cond rfl (fun h1 => ?_) (fun h1 => ?_) <;> (try simp at h1)
        · obtain ⟨x, hx⟩ := getp (l := o'.pairs) (j := j) (by omega)
          have hx1 := hgo'.each x (List.mem_of_getElem? hx)
          have hx2 := hoo.pairs x (List.mem_of_getElem? hx)
          have hst := sumP_step hx
          obtain ⟨kv, b1, b2, b3⟩ := (hVo hk0a).pairs.at_ j x hx
          have skv := b3.sl
          refine zrun ?_ ?_
          refine x_load rfl rfl (hpmt (r11)) rfl trivial ?_
          refine zrun ?_ ?_
          refine x_load rfl rfl (hpmt (b1)) rfl trivial ?_
          refine zrun ?_ ?_
          refine x_load rfl rfl (hpmt (r11)) rfl trivial ?_
          refine zrun ?_ ?_
          refine x_load rfl rfl (hpmt (b2)) rfl trivial ?_
          refine zrun ?_ ?_
          refine x_buildSlice (vs := [.int .u64 x.2]) rfl rfl rfl rfl (by omega) (by simp [oneC, Value.oneCell']) rfl trivial ?_
          intro Hb hnb
          refine ⟨trivial, ?_⟩
          refine zrun ?_ ?_
          refine x_append (v := v) (by rfl) (by rfl) (by rfl) rfl rfl rfl (hO.keep hnb.keep (fun _ h => h)) (isSl_some (Nat.le_refl _) (by omega)) (m := 1) (cx := [.int .u64 x.2]) rfl (hnb.blk.cels 0 1 (by simp)) (by simp [oneC, Value.oneCell']) (by omega) rfl trivial ?_
          intro v' Hc hap
          refine ⟨trivial, ?_⟩
          have hkab := hka.non_trans hnb.keep
          have hkc := hap.old hf hkab
          have hf' := hap.fresh hf hkab.size
          have hO' := hap.own
          rw [← vals_step hx] at hO'
          have hBc := hB8.keep hkc (fun h => h)
          have t11 : cel Hc H.size 11 = some vp := by rw [hBc.cel]; rfl
          obtain ⟨kv', c1, c2, c3⟩ := (hVo (hk08.non_trans hkc)).pairs.at_ j x hx
          refine zrun ?_ ?_
          refine x_load rfl rfl (hpmt (t11)) rfl trivial ?_
          refine zrun ?_ ?_
          refine x_load rfl rfl (hpmt (c2)) rfl trivial ?_
          refine zrun ?_ ?_
          by_cases hx0 : x.2 = 0
          · rw [show (x.2 == 0) = true by simp [hx0]]
            refine zrun ?_ ?_
            exact nw_round (j + 1, w3 + 7 + 2 * x.1.length + 1, v') (by repeat (first | exact True.intro | refine ⟨rfl, ?_⟩)) ⟨by show j + 1 ≤ _; omega, hkc, hO', hf', by show w3 + 7 + 2 * (x.1.length : Int) + 1 = w2 + sumP o' (j + 1); rw [hst, if_pos hx0]; omega⟩ (by show o'.pairs.length - (j + 1) < o'.pairs.length - j; omega)
          · rw [show (x.2 == 0) = false by simp [hx0]]
            refine zrun ?_ ?_
            exact nw_round (j + 1, w3 + 7 + 2 * x.1.length, v') (by repeat (first | exact True.intro | refine ⟨rfl, ?_⟩)) ⟨by show j + 1 ≤ _; omega, hkc, hO', hf', by show w3 + 7 + 2 * (x.1.length : Int) = w2 + sumP o' (j + 1); rw [hst, if_neg hx0]; omega⟩ (by show o'.pairs.length - (j + 1) < o'.pairs.length - j; omega)
        · obtain rfl : j = o'.pairs.length := by omega
          clear h1
          rw [sumP_all] at hw3 hsp
          have hvl := vals_length (o := o') (Nat.le_refl o'.pairs.length)
          have hvo : ∀ v ∈ valsO o' o'.pairs.length, U64 v := fun v hv => vals_ok hoo hv
          obtain ⟨vl, hvle⟩ : ∃ vl, vl = valsO o' o'.pairs.length := ⟨_, rfl⟩
          rw [← hvle] at hvl hvo hO
          refine zrun ?_ ?_
          refine cw_loop (fun t : Nat × Int => [(1, ptr H.size 0), (3, strV (nameOf o'.kind)), (4, .int .i64 t.2), (10, v), (12, .int .i64 (t.1 : Nat))]) (fun t H' => Ha = H' ∧ t.1 ≤ vl.length ∧ t.2 = w3 + sumV vl t.1) (fun t => vl.length - t.1) (0, w3) (by repeat (first | exact True.intro | refine ⟨rfl, ?_⟩)) ⟨rfl, by simp, by simp [sumV]⟩ ?_
          rintro ⟨j, w4⟩ _ ⟨rfl, hj, hw4⟩
          simp only at hj hw4
          dsimp only
          have hsv := sumV_le hvo j hj
          refine zrun ?_ ?_
          refine cw_cond rfl (fun h1 => ?_) (fun h1 => ?_) <;> (try simp at h1)
          · obtain ⟨x, hx⟩ := getp (l := vl) (j := j) (by omega)
            have hx1 := hvo x (List.mem_of_getElem? hx)
            have hst := sumV_step hx
            have hdl := dgt_le x.toNat (by have := hx1.1; have := hx1.2; omega)
            have hcx : cel Ha (sb v) (so v + j) = some (.int .u64 x) := by
              have hjl : j < (vcs vl).length := by unfold vcs; rw [List.length_map]; omega
              have hq : (vcs vl)[j]? = some (.int .u64 x) := by unfold vcs; rw [List.getElem?_map, hx]; rfl
              rw [hO.cels j hjl, ← hq, List.getElem?_eq_getElem hjl]
            refine zrun ?_ ?_
            refine x_load rfl rfl (hpmt (hcx)) rfl trivial ?_
            refine zrun ?_ ?_
            refine cw_loop (fun t : Int × Int => [(1, ptr H.size 0), (3, strV (nameOf o'.kind)), (4, .int .i64 t.1), (10, v), (12, .int .i64 (j : Nat)), (13, .int .u64 t.2)]) (fun t H' => Ha = H' ∧ U64 t.2 ∧ t.1 + dgt t.2.toNat = w4 + dgt x.toNat) (fun t => t.2.toNat) (w4, x) (by repeat (first | exact True.intro | refine ⟨rfl, ?_⟩)) ⟨rfl, hx1, rfl⟩ ?_
            rintro ⟨u, y⟩ _ ⟨rfl, hy, hu⟩
            simp only at hy hu
            dsimp only
            refine zrun ?_ ?_
            by_cases hy0 : y = 0
            · rw [show (y != 0) = false by simp [hy0]]
              subst hy0
              have hu' : u = w4 + dgt x.toNat := by
                rw [show (0 : Int).toNat = 0 from rfl, dgt_zero] at hu
                omega
              refine zrun ?_ ?_
              exact nw_round (j + 1, u) (by repeat (first | exact True.intro | refine ⟨rfl, ?_⟩)) ⟨rfl, by show j + 1 ≤ _; omega, by show u = w3 + sumV vl (j + 1); rw [hst]; omega⟩ (by show vl.length - (j + 1) < vl.length - j; omega)
            · rw [show (y != 0) = true by simp [hy0]]
              have hy1 := hy.1
              have hy2 := hy.2
              have hd := dgt_pos (u := y.toNat) (by omega)
              have hdy := dgt_le y.toNat (by omega)
              refine zrun ?_ ?_
              refine x_quo rfl rfl rfl (by decide) rfl trivial ?_
              obtain ⟨ht, hta⟩ := tdiv_u64 hy
              rw [wrap_u64 ht.1 (by have := ht.2; omega)]
              refine zrun ?_ ?_
              exact nw_round (u + 1, y.tdiv 10) (by repeat (first | exact True.intro | refine ⟨rfl, ?_⟩)) ⟨rfl, ht, by show u + 1 + dgt (y.tdiv 10).toNat = _; rw [hta]; omega⟩ (by show (y.tdiv 10).toNat < y.toNat; omega)
          · obtain rfl : j = vl.length := by omega
            clear h1
            rw [hvl, hvle, sumV_all] at hw4
            have hlen := say_length hoo hko.1 hko.2
            rw [sumN_all] at hw
            rw [sumB_all] at hw
            have hw5 : ((sayO o').length : Int) = w4 := by
              rw [hlen]
              by_cases hv0 : o'.val = 0
              · rw [if_pos hv0] at hw2 ⊢
                omega
              · rw [if_neg hv0] at hw2 ⊢
                omega
            clear hlen
            clear hO hf sv hvo hsv hvl hvle
            have hLa := hL.keepN hk0a
            refine zrun ?_ ?_
            refine x_loads (cs := opCells o' vk vt vd vp) rfl rfl rfl (hpmt (hBa.cels 0 12 (by simp [opCells]))) rfl trivial ?_
            refine zrun ?_ ?_
            refine x_call rfl rfl rfl trivial (law_Say (hVo hk0a) hoo hgo'.sm ⟨by omega, by omega⟩ hLa) ?_
            rintro _ Hd ⟨hkd, rfl⟩
            refine ⟨trivial, ?_⟩
            have hk0d := hk0a.non_trans hkd
            have hBd := hBa.keep hkd (fun h => h)
            have hrd : readG rdrW (nameOf o'.kind) = some { kind := o'.kind } := by rw [← say_word hko.1 hko.2]; exact read_say rdrW_ok (OpOk.zero o'.kind) hko.1 hko.2
            obtain ⟨hbg, hbl⟩ := say_begin (o := o') hko.1 hko.2
            refine zrun ?_ ?_
            refine x_call rfl rfl rfl trivial (law_Read (by omega) (hL.keepN hk0d)) ?_
            rintro _ He ⟨hke, be, Se, xk, xt, xd, xp, q, c, rfl, hOe, hr⟩
            rw [hrd] at hr
            obtain ⟨rfl, rfl⟩ : q = { kind := o'.kind } ∧ c = 0 := by
              rcases hr with ⟨h1, h2⟩ | ⟨h1, _, _⟩
              · injection h1 with h1
                exact ⟨h1.symm, h2⟩
              · cases h1
            clear hr
            refine ⟨trivial, ?_⟩
            refine zrun ?_ ?_
            refine x_alloc (zs := zeroOp) rfl rfl trivial ?_
            intro Hf hnf
            refine ⟨trivial, ?_⟩
            refine zrun ?_ ?_
            refine x_stores (cs := opCells { kind := o'.kind } xk xt xd xp) rfl rfl rfl rfl hOe.one hnf.blk (by simp [opCells]) trivial ?_
            intro Hg hBg hkg hsg
            refine ⟨trivial, ?_⟩
            have hBg : Blk Hg He.size (opCells { kind := o'.kind } xk xt xd xp) := hBg
            have hkfg := keep_at hnf.keep hkg (Nat.le_refl _)
            have hk0g := hk0d.non_trans (hke.non_trans hkfg)
            have hVx := hOe.opv.keepN hkfg
            have hBog := hBd.keep (hke.non_trans hkfg) (fun h => h)
            have e0 : cel Hg H.size 0 = some (.int .i64 o'.kind) := by rw [hBog.cel]; rfl
            have hmin : min (((nameOf o'.kind).length : Nat) : Int) (((sayO o').length : Nat) : Int) = ((nameOf o'.kind).length : Nat) := by omega
            refine zrun ?_ ?_
            refine x_len_str rfl rfl rfl trivial ?_
            rw [strV_size]
            refine zrun ?_ ?_
            rw [show (((sayO o').length : Int) == w4) = true by rw [hw5]; exact beq_self_eq_true _]
            refine zrun ?_ ?_
            refine x_len_str rfl rfl rfl trivial ?_
            rw [strV_size]
            refine zrun ?_ ?_
            refine x_len_str rfl rfl rfl trivial ?_
            rw [strV_size]
            refine zrun ?_ ?_
            refine x_min rfl rfl rfl rfl trivial ?_
            rw [hmin]
            refine zrun ?_ ?_
            refine x_strL_h rfl rfl rfl hbl rfl trivial ?_
            rw [hbg]
            refine zrun ?_ ?_
            refine x_seqL rfl rfl rfl rfl trivial ?_
            rw [decide_eq_true rfl]
            refine zrun ?_ ?_
            refine x_loads (cs := opCells { kind := o'.kind } xk xt xd xp) rfl rfl rfl (hpmt (hBg.cels 0 12 (by simp [opCells]))) rfl trivial ?_
            refine zrun ?_ ?_
            refine x_load rfl rfl (hpmt (e0)) rfl trivial ?_
            refine zrun ?_ ?_
            refine x_build (cs := opCells { kind := o'.kind } (.slice none 0 0) (.slice none 0 0) (.slice none 0 0) (.slice none 0 0)) rfl rfl rfl (by simp [oneC, Value.oneCell']) rfl trivial ?_
            refine zrun ?_ ?_
            refine x_call rfl rfl rfl trivial (law_Same hVx (opv_zero _ _)) ?_
            rintro _ Hh ⟨hkh, rfl⟩
            refine ⟨trivial, ?_⟩
            rw [decide_eq_true rfl]
            refine zrun ?_ ?_
            refine x_call rfl rfl rfl trivial (law_awake (hL.keepN (hk0g.non_trans hkh))) ?_
            rintro _ Hi ⟨hki, rfl⟩
            refine ⟨trivial, ?_⟩
            refine zrun ?_ ?_
            exact cw_ret1 rfl rfl ⟨rfl, (hk0g.non_trans hkh).non_trans hki⟩
end Go.Proofs.YtbcflfkajkmkdaaDoor.X
