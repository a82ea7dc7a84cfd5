/- What the statements share of rows of bytes, and chapter 1's own answers: what these functions answer. -/
import Derived.Test.YtkdmcbacofafpaaDoorKey
import Derived.Test.YtkdmcbacofafpaaDoorKq
namespace Go.Proofs.YtkdmcbacofafpaaDoor.X
open Go Go.Proofs
set_option linter.unusedVariables false
set_option maxRecDepth 10000

theorem law_SameBytes {va vb : Value} {la lb : Bytes} {H : Heap} (hA : Bs H va la) (hB : Bs H vb lb) : Ret Tryd.prog 28 [va, vb] H (fun v H' => H = H' ∧ v = .bool (la == lb)) := by
  have sA := hA.sl
  have sB := hB.sl
  have cA := sA.cap
  have cB := sB.cap
  refine ret_of Tryd.func28 rfl rfl rfl rfl ?_
  intro w0
  refine zrun ?_ ?_
  refine cw_cond rfl (fun h1 => ?_) (fun h1 => ?_) <;> (try simp at h1)
  · refine zrun ?_ ?_
    refine cw_ret1 rfl rfl ⟨rfl, ?_⟩
    (try show Value.int _ _ = Value.int _ _); (try show Value.bool _ = Value.bool _)
    have : la ≠ lb := by intro e; subst e; exact h1 rfl
    simp [this]
  · refine zrun ?_ ?_
    refine cw_loop (fun j : Nat => [(0, va), (1, vb), (5, .int .i64 j)]) (fun j H' => H = H' ∧ j ≤ la.length ∧ la.take j = lb.take j) (fun j => la.length - j) 0 ⟨rfl, rfl, rfl, trivial⟩ ⟨rfl, by omega, by simp⟩ ?_
    rintro j _ ⟨rfl, hj, ht⟩
    refine zrun ?_ ?_
    refine cw_cond rfl (fun h2 => ?_) (fun h2 => ?_) <;> (try simp at h2)
    · obtain ⟨x, hx⟩ : ∃ x, la[j]? = some x := ⟨_, List.getElem?_eq_getElem h2⟩
      obtain ⟨y, hy⟩ : ∃ y, lb[j]? = some y := ⟨_, List.getElem?_eq_getElem (by omega)⟩
      refine zrun ?_ ?_
      refine cw_quiet mixed (by kernel_rfl) ?_
      refine zrun ?_ ?_
      refine x_load rfl rfl (hpmt (hA.get j x hx)) rfl trivial ?_
      refine zrun ?_ ?_
      refine x_load rfl rfl (hpmt (hB.get j y hy)) rfl trivial ?_
      refine zrun ?_ ?_
      refine cw_cond rfl (fun h3 => ?_) (fun h3 => ?_) <;> (try simp at h3)
      · refine zrun ?_ ?_
        refine cw_ret1 rfl rfl ⟨rfl, ?_⟩
        (try show Value.int _ _ = Value.int _ _); (try show Value.bool _ = Value.bool _)
        have : la ≠ lb := by
          intro e
          subst e
          rw [hx] at hy
          cases hy
          exact h3 rfl
        simp [this]
      · have h3' : x = y := UInt8.toNat_inj.1 (by omega)
        refine zrun ?_ ?_
        refine nw_round (j + 1) ⟨rfl, rfl, rfl, trivial⟩ ⟨rfl, by omega, ?_⟩ (by omega)
        rw [List.take_add_one, List.take_add_one, ht, hx, hy, h3']
    · have : j = la.length := by omega
      subst this
      refine zrun ?_ ?_
      refine cw_ret1 rfl rfl ⟨rfl, ?_⟩
      (try show Value.int _ _ = Value.int _ _); (try show Value.bool _ = Value.bool _)
      have : la = lb := by
        have h := ht
        rw [List.take_length, List.take_of_length_le (by omega)] at h
        exact h
      simp [this]

/-- a copy with spare room that is marked -/
structure Lent (H : Heap) (v : Value) (l : Bytes) : Prop where
  sl : IsSl v l.length
  len : l.length ≤ 140737488355000
  cap : l.length + 3 ≤ sc v
  at_ : Cels H (sb v) (so v) (bvs (l ++ [119, 119, 119]))
  blk : ∃ c, Blk H (sb v) c ∧ so v + sc v ≤ c.length
theorem Lent.bs {H : Heap} {v : Value} {l : Bytes} (h : Lent H v l) : Bs H v l := by
  refine ⟨h.sl, ?_⟩
  have := h.at_.take l.length
  rw [bvs_append, List.take_append_of_le_length (by rw [bvs_length]; exact Nat.le_refl _), List.take_of_length_le (by rw [bvs_length]; exact Nat.le_refl _)] at this
  exact this
theorem Lent.keep {S : Nat → Prop} {H H' : Heap} {v : Value} {l : Bytes} (h : Lent H v l) (k : Keep S H H') (hn : ¬ S (sb v)) : Lent H' v l := ⟨h.sl, h.len, h.cap, h.at_.keep k (fun _ => hn), let ⟨c, h1, h2⟩ := h.blk; ⟨c, h1.keep k hn, h2⟩⟩
theorem Lent.keepN {H H' : Heap} {v : Value} {l : Bytes} (h : Lent H v l) (k : Keep Non H H') : Lent H' v l := h.keep k (fun h => h)

theorem Lent.own {H : Heap} {v : Value} {l : Bytes} (h : Lent H v l) : Own 1 H v l.length (bvs l) := by
  obtain ⟨c, h1, h2⟩ := h.blk
  refine ⟨h.sl, by rw [bvs_length, Nat.mul_one], fun _ => ⟨c, h1, by rw [Nat.mul_one]; exact h2, ?_⟩⟩
  have hb := h.bs.at_
  apply List.ext_getElem?
  intro j
  rw [List.getElem?_take, List.getElem?_drop]
  by_cases hj : j < (bvs l).length
  · rw [if_pos hj]
    have := hb j hj
    rw [h1.cel] at this
    rw [this, List.getElem?_eq_getElem hj]
  · rw [if_neg hj, List.getElem?_eq_none (by omega)]
theorem Lent.lt {H : Heap} {v : Value} {l : Bytes} (h : Lent H v l) : sb v < H.size := lt_of_cel (h.at_ 0 (by simp [bvs]))

/-- what was answered is written over: only the block it stands in is touched -/
theorem law_OverBytes {va : Value} {m : Nat} {cs : List Value} {H : Heap} (hO : Own 1 H va m cs) (hm : m ≤ 140737488355000) : Ret Tryd.prog 31 [va] H (fun v H' => v = .tuple #[] ∧ Keep (fun b => b = sb va ∧ 0 < sc va) H H') := by
  have sA := hO.sl
  have cA := sA.cap
  refine ret_of Tryd.func31 rfl rfl rfl rfl ?_
  intro w0
  refine zrun ?_ ?_
  refine cw_loop (fun j : Nat => [(0, va), (2, .int .i64 j)]) (fun j H' => j ≤ m ∧ Keep (fun b => b = sb va ∧ 0 < sc va) H H' ∧ ∃ cs', Own 1 H' va m cs') (fun j => m - j) 0 ⟨rfl, rfl, trivial⟩ ⟨by omega, Keep.refl _ _, cs, hO⟩ ?_
  rintro j H1 ⟨hj, hk, cs', hO'⟩
  have hl' := hO'.len
  refine zrun ?_ ?_
  refine cw_cond rfl (fun h1 => ?_) (fun h1 => ?_) <;> (try simp at h1)
  · obtain ⟨l, hl1, hl2, hl3⟩ := hO'.store j (by omega)
    refine zrun ?_ ?_
    refine x_store rfl rfl rfl rfl hl1 hl2 trivial ?_
    intro H2 hB2 hk2 hs2
    refine ⟨trivial, ?_⟩
    refine zrun ?_ ?_
    exact nw_round (j + 1) ⟨rfl, rfl, trivial⟩ ⟨by omega, hk.step hk2 (fun b _ e => ⟨e, by omega⟩), _, hl3 _ _ hB2⟩ (by omega)
  · refine zrun ?_ ?_
    refine x_buildSlice rfl rfl rfl rfl (by omega) (by simp [oneC, Value.oneCell']) rfl trivial ?_
    intro H2 hn
    refine ⟨trivial, ?_⟩
    refine x_append (by rfl) (by rfl) (by rfl) rfl rfl rfl (hO'.keep hn.keep (fun _ h => h)) (isSl_some (Nat.le_refl _) (by omega)) (m := 1) (cx := [.int .u8 238]) rfl (hn.blk.cels 0 1 (by simp)) (by simp [oneC, Value.oneCell']) (by omega) rfl trivial ?_
    intro v' H3 hap
    refine ⟨trivial, ?_⟩
    refine zrun ?_ ?_
    exact nw_end rfl ⟨rfl, (hk.step hn.keep (fun b _ h => h.elim)).step hap.keep (fun b _ h => ⟨h.1, by have := h.2.1; omega⟩)⟩

/-! chapter 1's own answers -/
theorem ref_May {va : Value} {n : Nat} {H : Heap} (sA : IsSl va n) : Ret Tryd.prog 36 [va] H (fun v H' => H = H' ∧ v = .bool (decide (n ≤ 65535))) := by
  refine ret_of Tryd.func36 rfl rfl rfl rfl ?_
  intro w0
  refine zrun ?_ ?_
  refine cw_ret1 rfl rfl ⟨rfl, ?_⟩
  (try show Value.int _ _ = Value.int _ _); (try show Value.bool _ = Value.bool _)
  congr 1
  simp
  omega
theorem ref_Common {va vb : Value} {la lb : Bytes} {H : Heap} (hA : Bs H va la) (hB : Bs H vb lb) : Ret Tryd.prog 39 [va, vb] H (fun v H' => H = H' ∧ v = .int .i64 (common la lb)) := by
  have sA := hA.sl
  have sB := hB.sl
  have cA := sA.cap
  have cB := sB.cap
  refine ret_of Tryd.func39 rfl rfl rfl rfl ?_
  intro w0
  refine zrun ?_ ?_
  refine cw_loop (fun j : Nat => [(0, va), (1, vb), (5, .int .i64 j)]) (fun j H' => H = H' ∧ j ≤ common la lb) (fun j => la.length - j) 0 ⟨rfl, rfl, rfl, trivial⟩ ⟨rfl, by omega⟩ ?_
  rintro j _ ⟨rfl, hj⟩
  have hle := common_le la lb
  refine zrun ?_ ?_
  refine cw_cut (fun b : Bool => [(0, va), (1, vb), (5, .int .i64 j), (26, .bool b)]) (fun b H' => H = H' ∧ (b = true → j + 1 ≤ common la lb) ∧ (b = false → common la lb = j)) ?_ ?_
  · refine cw_quiet mixed (by kernel_rfl) ?_
    refine zrun ?_ ?_
    refine x_split 10 rfl (fun h1 => ?_) (fun h1 => ?_) <;> (try simp at h1)
    · refine zrun ?_ ?_
      refine x_split 16 rfl (fun h2 => ?_) (fun h2 => ?_) <;> (try simp at h2)
      · obtain ⟨x, hx⟩ : ∃ x, la[j]? = some x := ⟨_, List.getElem?_eq_getElem h1⟩
        obtain ⟨y, hy⟩ : ∃ y, lb[j]? = some y := ⟨_, List.getElem?_eq_getElem h2⟩
        have hst := common_step hj hx hy
        refine zrun ?_ ?_
        refine x_load rfl rfl (hpmt (hA.get j x hx)) rfl trivial ?_
        refine zrun ?_ ?_
        refine x_load rfl rfl (hpmt (hB.get j y hy)) rfl trivial ?_
        refine zrun ?_ ?_
        refine nw_meet (((x.toNat : Int) == (y.toNat : Int))) ⟨rfl, rfl, rfl, rfl, trivial⟩ ⟨rfl, ?_, ?_⟩
        · intro h3
          simp at h3
          exact hst.1 (UInt8.toNat_inj.1 (by omega))
        · intro h3
          simp at h3
          exact hst.2 (fun e => h3 (by rw [e]))
      · refine zrun ?_ ?_
        refine nw_meet false ⟨rfl, rfl, rfl, rfl, trivial⟩ ⟨rfl, by simp, fun _ => by omega⟩
    · refine zrun ?_ ?_
      refine nw_meet false ⟨rfl, rfl, rfl, rfl, trivial⟩ ⟨rfl, by simp, fun _ => by omega⟩
  · rintro b _ ⟨rfl, ht, hf⟩
    cases b with
    | true =>
      have := ht rfl
      refine zrun ?_ ?_
      refine nw_round (j + 1) ⟨rfl, rfl, rfl, trivial⟩ ⟨rfl, this⟩ (by omega)
    | false =>
      have := hf rfl
      refine zrun ?_ ?_
      refine cw_ret1 rfl rfl ⟨rfl, ?_⟩
      (try show Value.int _ _ = Value.int _ _); (try show Value.bool _ = Value.bool _)
      rw [this]
theorem ref_Bit {va : Value} {la : Bytes} {H : Heap} (i : Int) (hi : -9223372036854775808 ≤ i ∧ i ≤ 9223372036854775807) (hA : Bs H va la) : Ret Tryd.prog 30 [va, .int .i64 i] H (fun v H' => H = H' ∧ v = .int .i64 (bitK la i)) := by
  have sA := hA.sl
  have cA := sA.cap
  refine ret_of Tryd.func30 rfl rfl rfl rfl ?_
  intro w0
  refine zrun ?_ ?_
  refine x_split 7 rfl (fun h1 => ?_) (fun h1 => ?_) <;> (try simp at h1)
  · refine zrun ?_ ?_
    refine cw_ret1 rfl rfl ⟨rfl, ?_⟩
    (try show Value.int _ _ = Value.int _ _); (try show Value.bool _ = Value.bool _)
    simp [bitK, h1]
  · obtain ⟨m, rfl⟩ := Int.eq_ofNat_of_zero_le h1
    have hq : (m : Int).tdiv 9 = ((m / 9 : Nat) : Int) := rfl
    have hr : (m : Int).tmod 9 = ((m % 9 : Nat) : Int) := rfl
    have hw : IntKind.i64.wrap ((m / 9 : Nat) : Int) = ((m / 9 : Nat) : Int) := wrap_i64 (by omega) (by omega)
    refine zrun ?_ ?_
    refine x_quo rfl rfl rfl (by decide) rfl trivial ?_
    rw [hq, hw]
    refine zrun ?_ ?_
    refine cw_cond rfl (fun h2 => ?_) (fun h2 => ?_) <;> simp at h2
    · refine zrun ?_ ?_
      refine cw_ret1 rfl rfl ⟨rfl, ?_⟩
      (try show Value.int _ _ = Value.int _ _); (try show Value.bool _ = Value.bool _)
      have : la[m / 9]? = none := List.getElem?_eq_none (by omega)
      simp [bitK, this]
    · obtain ⟨x, hx⟩ : ∃ x, la[m / 9]? = some x := ⟨_, List.getElem?_eq_getElem (by omega)⟩
      have hx8 := x.toNat_lt
      refine zrun ?_ ?_
      refine x_rem rfl rfl rfl (by decide) rfl trivial ?_
      rw [hr]
      refine zrun ?_ ?_
      refine cw_cond rfl (fun h3 => ?_) (fun h3 => ?_) <;> simp at h3
      · refine zrun ?_ ?_
        refine cw_ret1 rfl rfl ⟨rfl, ?_⟩
        (try show Value.int _ _ = Value.int _ _); (try show Value.bool _ = Value.bool _)
        have e : m % 9 = 0 := by omega
        simp [bitK, hx, e]
      · refine zrun ?_ ?_
        refine x_quo rfl rfl rfl (by decide) rfl trivial ?_
        rw [hq, hw]
        refine zrun ?_ ?_
        refine x_load rfl rfl (hpmt (hA.get _ x hx)) rfl trivial ?_
        refine zrun ?_ ?_
        refine x_rem rfl rfl rfl (by decide) rfl trivial ?_
        rw [hr]
        refine zrun ?_ ?_
        refine x_shr rfl rfl rfl (by omega) rfl trivial ?_
        have he : (min ((8 : Int) - ((m % 9 : Nat) : Int)).toNat IntKind.u8.bits) = 8 - m % 9 := by
          have : IntKind.u8.bits = 8 := rfl
          rw [this]; omega
        rw [he]
        have hf : ((x.toNat : Int).fdiv (2 ^ (8 - m % 9))) = ((x.toNat / 2 ^ (8 - m % 9) : Nat) : Int) := by
          rw [Int.fdiv_eq_ediv_of_nonneg _ (Int.le_of_lt (Int.pow_pos (by omega)))]
          simp
        have hb : x.toNat / 2 ^ (8 - m % 9) ≤ x.toNat := Nat.div_le_self _ _
        obtain ⟨q, hq8⟩ : ∃ q, q = x.toNat / 2 ^ (8 - m % 9) := ⟨_, rfl⟩
        rw [← hq8] at hf hb
        rw [hf]
        refine x_ibin rfl rfl rfl rfl rfl trivial ?_
        rw [and_one8 _ (by omega)]
        refine x_conv_int rfl rfl rfl trivial ?_
        rw [wrap_i64 (by omega) (by omega)]
        refine zrun ?_ ?_
        refine cw_ret1 rfl rfl ⟨rfl, ?_⟩
        (try show Value.int _ _ = Value.int _ _); (try show Value.bool _ = Value.bool _)
        have e : ¬ m % 9 = 0 := by omega
        simp [bitK, hx, e, hq8]
        intro h
        omega
theorem ref_Differ {va vb : Value} {la lb : Bytes} {H : Heap} (hA : Bs H va la) (hB : Bs H vb lb) (hla : la.length ≤ 140737488355328) : Ret Tryd.prog 29 [va, vb] H (fun v H' => H = H' ∧ v = .int .i64 (differ la lb)) := by
  have e1 : ByteArray.toList ⟨la.toArray⟩ = la := by rw [Lib.toList_data]
  have e2 : ByteArray.toList ⟨lb.toArray⟩ = lb := by rw [Lib.toList_data]
  have hle := common_le la lb
  refine ret_of Tryd.func29 rfl rfl rfl rfl ?_
  intro w0
  refine zrun ?_ ?_
  refine x_tostr rfl rfl (hpmt hA) rfl trivial ?_
  refine zrun ?_ ?_
  refine x_tostr rfl rfl (hpmt hB) rfl trivial ?_
  refine x_seql rfl rfl rfl rfl trivial ?_
  rw [e1, e2]
  refine zrun ?_ ?_
  refine cw_cond rfl (fun h1 => ?_) (fun h1 => ?_) <;> (try simp at h1)
  · refine zrun ?_ ?_
    refine cw_ret1 rfl rfl ⟨rfl, ?_⟩
    (try show Value.int _ _ = Value.int _ _); (try show Value.bool _ = Value.bool _)
    subst h1
    rw [differ_self]
  · obtain ⟨d, hd, h2, h3, h4, h5, h6, h7⟩ := differ_spec h1
    refine zrun ?_ ?_
    refine x_call rfl rfl rfl trivial (ref_Common hA hB) ?_
    rintro _ _ ⟨rfl, rfl⟩
    refine ⟨trivial, ?_⟩
    refine zrun ?_ ?_
    refine cw_loop (fun j : Nat => [(0, va), (1, vb), (5, .int .i64 j)]) (fun j H' => H = H' ∧ j ≤ d) (fun j => d - j) (9 * common la lb) ⟨rfl, rfl, rfl, trivial⟩ ⟨rfl, h2⟩ ?_
    rintro j _ ⟨rfl, hj⟩
    refine zrun ?_ ?_
    refine x_call rfl rfl rfl trivial (ref_Bit j (by omega) hA) ?_
    rintro _ _ ⟨rfl, rfl⟩
    refine ⟨trivial, ?_⟩
    refine zrun ?_ ?_
    refine x_call rfl rfl rfl trivial (ref_Bit j (by omega) hB) ?_
    rintro _ _ ⟨rfl, rfl⟩
    refine ⟨trivial, ?_⟩
    refine zrun ?_ ?_
    refine cw_cond rfl (fun h8 => ?_) (fun h8 => ?_) <;> (try simp at h8)
    · have : j ≠ d := by rintro rfl; exact h7 (by omega)
      refine zrun ?_ ?_
      refine nw_round (j + 1) ⟨rfl, rfl, rfl, trivial⟩ ⟨rfl, by omega⟩ (by omega)
    · have : j = d := by
        rcases Nat.lt_or_ge j d with h9 | h9
        · exact absurd (h5 j h9) h8
        · omega
      subst this
      refine zrun ?_ ?_
      refine cw_ret1 rfl rfl ⟨rfl, ?_⟩
      (try show Value.int _ _ = Value.int _ _); (try show Value.bool _ = Value.bool _)
      rw [hd]
theorem ref_Begins {va vb : Value} {la lb : Bytes} {H : Heap} (hA : Bs H va la) (hB : Bs H vb lb) : Ret Tryd.prog 46 [va, vb] H (fun v H' => H = H' ∧ v = .bool (begins la lb)) := by
  have sB := hB.sl
  have cB := sB.cap
  have hle := common_le la lb
  refine ret_of Tryd.func46 rfl rfl rfl rfl ?_
  intro w0
  refine zrun ?_ ?_
  refine x_call rfl rfl rfl trivial (ref_Common hA hB) ?_
  rintro _ _ ⟨rfl, rfl⟩
  refine ⟨trivial, ?_⟩
  refine zrun ?_ ?_
  refine cw_ret1 rfl rfl ⟨rfl, ?_⟩
  (try show Value.int _ _ = Value.int _ _); (try show Value.bool _ = Value.bool _)
  rw [begins_common]
  congr 1
  by_cases h : common la lb = lb.length
  · simp [h]
  · have : ¬ (common la lb : Int) = (lb.length : Int) := by omega
    simp [h, this]
end Go.Proofs.YtkdmcbacofafpaaDoor.X
