/- The packages key and need: what their functions answer. -/
import Derived.Test.YtkdmcbacofafpaaDoorTypes
import Derived.Test.YtkdmcbacofafpaaDoorKp
namespace Go.Proofs.YtkdmcbacofafpaaDoor.X
open Go Go.Proofs
set_option linter.unusedVariables false
set_option maxRecDepth 10000

theorem hpmt {H : Heap} {p : Heap → Prop} (h : p H) : ∀ H', H' = H → p H' := fun _ e => e ▸ h

theorem key_May {va : Value} {n : Nat} {H : Heap} (sA : IsSl va n) : Ret Tryd.prog 60 [va] H (fun v H' => H = H' ∧ v = .bool (decide (n ≤ 65535))) := by
  refine ret_of Tryd.func60 rfl rfl rfl rfl ?_
  intro w0
  refine zrun ?_ ?_
  refine cw_ret1 rfl rfl ⟨rfl, ?_⟩
  (try show Value.int _ _ = Value.int _ _); (try show Value.bool _ = Value.bool _)
  congr 1
  simp
  omega

theorem key_Common {va vb : Value} {la lb : Bytes} {H : Heap} (hA : Bs H va la) (hB : Bs H vb lb) : Ret Tryd.prog 64 [va, vb] H (fun v H' => H = H' ∧ v = .int .i64 (common la lb)) := by
  have sA := hA.sl
  have sB := hB.sl
  have cA := sA.cap
  have cB := sB.cap
  refine ret_of Tryd.func64 rfl rfl rfl rfl ?_
  intro w0
  refine zrun ?_ ?_
  refine cw_loop (fun j : Nat => [(0, va), (1, vb), (5, .int .i64 j)]) (fun j H' => H = H' ∧ j ≤ common la lb) (fun j => la.length - j) 0 ⟨rfl, rfl, rfl, trivial⟩ ⟨rfl, by omega⟩ ?_
  rintro j _ ⟨rfl, hj⟩
  have hle := common_le la lb
  refine zrun ?_ ?_
  refine cw_cut (fun b : Bool => [(0, va), (1, vb), (5, .int .i64 j), (26, .bool b)]) (fun b H' => H = H' ∧ (b = true → j + 1 ≤ common la lb) ∧ (b = false → common la lb = j)) ?_ ?_
  · refine cw_quiet mixed (by kernel_rfl) ?_
    refine zrun ?_ ?_
    refine x_split 10 rfl (fun h1 => ?_) (fun h1 => ?_) <;> (try simp at h1)
    · refine zrun ?_ ?_
      refine x_split 16 rfl (fun h2 => ?_) (fun h2 => ?_) <;> (try simp at h2)
      · obtain ⟨x, hx⟩ : ∃ x, la[j]? = some x := ⟨_, List.getElem?_eq_getElem h1⟩
        obtain ⟨y, hy⟩ : ∃ y, lb[j]? = some y := ⟨_, List.getElem?_eq_getElem h2⟩
        have hst := common_step hj hx hy
        refine zrun ?_ ?_
        refine x_load rfl rfl (hpmt (hA.get j x hx)) rfl trivial ?_
        refine zrun ?_ ?_
        refine x_load rfl rfl (hpmt (hB.get j y hy)) rfl trivial ?_
        refine zrun ?_ ?_
        refine nw_meet (((x.toNat : Int) == (y.toNat : Int))) ⟨rfl, rfl, rfl, rfl, trivial⟩ ⟨rfl, ?_, ?_⟩
        · intro h3
          simp at h3
          exact hst.1 (UInt8.toNat_inj.1 (by omega))
        · intro h3
          simp at h3
          exact hst.2 (fun e => h3 (by rw [e]))
      · refine zrun ?_ ?_
        refine nw_meet false ⟨rfl, rfl, rfl, rfl, trivial⟩ ⟨rfl, by simp, fun _ => by omega⟩
    · refine zrun ?_ ?_
      refine nw_meet false ⟨rfl, rfl, rfl, rfl, trivial⟩ ⟨rfl, by simp, fun _ => by omega⟩
  · rintro b _ ⟨rfl, ht, hf⟩
    cases b with
    | true =>
      have := ht rfl
      refine zrun ?_ ?_
      refine nw_round (j + 1) ⟨rfl, rfl, rfl, trivial⟩ ⟨rfl, this⟩ (by omega)
    | false =>
      have := hf rfl
      refine zrun ?_ ?_
      refine cw_ret1 rfl rfl ⟨rfl, ?_⟩
      (try show Value.int _ _ = Value.int _ _); (try show Value.bool _ = Value.bool _)
      rw [this]

theorem tdiv9 {i : Int} (hi : -9223372036854775808 ≤ i ∧ i ≤ 9223372036854775807) : -9223372036854775808 ≤ i.tdiv 9 ∧ i.tdiv 9 ≤ 9223372036854775807 := by
  rcases Int.eq_nat_or_neg i with ⟨m, rfl | rfl⟩
  · have hq : (m : Int).tdiv 9 = ((m / 9 : Nat) : Int) := rfl
    omega
  · have hq : (m : Int).tdiv 9 = ((m / 9 : Nat) : Int) := rfl
    rw [Int.neg_tdiv, hq]
    omega

theorem key_Bit {va : Value} {la : Bytes} {H : Heap} (i : Int) (hi : -9223372036854775808 ≤ i ∧ i ≤ 9223372036854775807) (hA : Bs H va la) : Ret Tryd.prog 55 [va, .int .i64 i] H (fun v H' => H = H' ∧ v = .int .i64 (bitK la i)) := by
  have sA := hA.sl
  have cA := sA.cap
  refine ret_of Tryd.func55 rfl rfl rfl rfl ?_
  intro w0
  refine zrun ?_ ?_
  have hq1 := tdiv9 hi
  refine x_quo rfl rfl rfl (by decide) rfl trivial ?_
  rw [wrap_i64 hq1.1 hq1.2]
  refine zrun ?_ ?_
  refine x_split 11 rfl (fun h1 => ?_) (fun h1 => ?_) <;> (try simp at h1)
  · refine zrun ?_ ?_
    refine cw_ret1 rfl rfl ⟨rfl, ?_⟩
    (try show Value.int _ _ = Value.int _ _); (try show Value.bool _ = Value.bool _)
    simp [bitK, h1]
  · obtain ⟨m, rfl⟩ := Int.eq_ofNat_of_zero_le h1
    have hq : (m : Int).tdiv 9 = ((m / 9 : Nat) : Int) := rfl
    have hr : (m : Int).tmod 9 = ((m % 9 : Nat) : Int) := rfl
    rw [hq]
    refine zrun ?_ ?_
    refine cw_cond rfl (fun h2 => ?_) (fun h2 => ?_) <;> simp at h2
    · refine zrun ?_ ?_
      refine cw_ret1 rfl rfl ⟨rfl, ?_⟩
      (try show Value.int _ _ = Value.int _ _); (try show Value.bool _ = Value.bool _)
      have : la[m / 9]? = none := List.getElem?_eq_none (by omega)
      simp [bitK, this]
    · obtain ⟨x, hx⟩ : ∃ x, la[m / 9]? = some x := ⟨_, List.getElem?_eq_getElem (by omega)⟩
      have hx8 := x.toNat_lt
      refine zrun ?_ ?_
      refine x_rem rfl rfl rfl (by decide) rfl trivial ?_
      rw [hr]
      refine zrun ?_ ?_
      refine cw_cond rfl (fun h3 => ?_) (fun h3 => ?_) <;> simp at h3
      · refine zrun ?_ ?_
        refine cw_ret1 rfl rfl ⟨rfl, ?_⟩
        (try show Value.int _ _ = Value.int _ _); (try show Value.bool _ = Value.bool _)
        have e : m % 9 = 0 := by omega
        simp [bitK, hx, e]
      · refine zrun ?_ ?_
        refine x_load rfl rfl (hpmt (hA.get _ x hx)) rfl trivial ?_
        refine zrun ?_ ?_
        refine x_rem rfl rfl rfl (by decide) rfl trivial ?_
        rw [hr]
        refine zrun ?_ ?_
        refine x_shr rfl rfl rfl (by omega) rfl trivial ?_
        refine x_conv_int rfl rfl rfl trivial ?_
        have he : (min ((8 : Int) - ((m % 9 : Nat) : Int)).toNat IntKind.u8.bits) = 8 - m % 9 := by
          have : IntKind.u8.bits = 8 := rfl
          rw [this]; omega
        rw [he]
        have hf : ((x.toNat : Int).fdiv (2 ^ (8 - m % 9))) = ((x.toNat / 2 ^ (8 - m % 9) : Nat) : Int) := by
          rw [Int.fdiv_eq_ediv_of_nonneg _ (Int.le_of_lt (Int.pow_pos (by omega)))]
          simp
        have hb : x.toNat / 2 ^ (8 - m % 9) ≤ x.toNat := Nat.div_le_self _ _
        obtain ⟨q, hq8⟩ : ∃ q, q = x.toNat / 2 ^ (8 - m % 9) := ⟨_, rfl⟩
        rw [← hq8] at hf hb
        rw [hf, wrap_i64 (by omega) (by omega)]
        refine zrun ?_ ?_
        refine cw_ret1 rfl rfl ⟨rfl, ?_⟩
        (try show Value.int _ _ = Value.int _ _); (try show Value.bool _ = Value.bool _)
        have e : ¬ m % 9 = 0 := by omega
        rw [and_one _ (by omega)]
        simp [bitK, hx, e, hq8]
        intro h
        omega

theorem bits_LeadingZeros8 (x : UInt8) (H : Heap) : Ret Tryd.prog 65 [.int .u8 (x.toNat : Int)] H (fun v H' => H = H' ∧ v = .int .i64 (zeros8 x)) := by
  have hLen : Ret Tryd.prog 68 [.int .u8 (x.toNat : Int)] H (fun v H' => H = H' ∧ v = .int .i64 ((8 - zeros8 x : Nat) : Int)) := by
    refine ret_of Tryd.func68 rfl rfl rfl rfl ?_
    intro w0
    refine zrun ?_ ?_
    refine x_index_str rfl rfl rfl (by omega) (tab_at x (fun n => UInt8.ofNat (8 - zeros8n n)) (by decide +kernel)) rfl trivial ?_
    refine x_conv_int rfl rfl rfl trivial ?_
    refine zrun ?_ ?_
    refine cw_ret1 rfl rfl ⟨rfl, ?_⟩
    (try show Value.int _ _ = Value.int _ _); (try show Value.bool _ = Value.bool _)
    have h8 : zeros8n x.toNat ≤ 8 := zeros8_le x
    have : (UInt8.ofNat (8 - zeros8n x.toNat)).toNat = 8 - zeros8n x.toNat := by
      simp
      omega
    rw [this, wrap_i64 (by omega) (by omega)]
    rfl
  refine ret_of Tryd.func65 rfl rfl rfl rfl ?_
  intro w0
  refine zrun ?_ ?_
  refine x_call rfl rfl rfl trivial (hLen) ?_
  rintro _ _ ⟨rfl, rfl⟩
  refine ⟨trivial, ?_⟩
  have h8 := zeros8_le x
  refine zrun ?_ ?_
  refine cw_ret1 rfl rfl ⟨rfl, ?_⟩
  (try show Value.int _ _ = Value.int _ _); (try show Value.bool _ = Value.bool _)
  congr 1
  omega

theorem key_Differ {va vb : Value} {la lb : Bytes} {H : Heap} (hA : Bs H va la) (hB : Bs H vb lb) (hla : la.length ≤ 140737488355328) : Ret Tryd.prog 54 [va, vb] H (fun v H' => H = H' ∧ v = .int .i64 (differ la lb)) := by
  have sA := hA.sl
  have sB := hB.sl
  have cA := sA.cap
  have cB := sB.cap
  have hle := common_le la lb
  refine ret_of Tryd.func54 rfl rfl rfl rfl ?_
  intro w0
  refine zrun ?_ ?_
  refine x_call rfl rfl rfl trivial (key_Common hA hB) ?_
  rintro _ _ ⟨rfl, rfl⟩
  refine ⟨trivial, ?_⟩
  refine zrun ?_ ?_
  refine x_split 14 rfl (fun h1 => ?_) (fun h1 => ?_) <;> (try simp at h1)
  · have h1' : common la lb = la.length := by omega
    refine zrun ?_ ?_
    refine cw_cond rfl (fun h2 => ?_) (fun h2 => ?_) <;> (try simp at h2)
    · refine zrun ?_ ?_
      refine cw_ret1 rfl rfl ⟨rfl, ?_⟩
      (try show Value.int _ _ = Value.int _ _); (try show Value.bool _ = Value.bool _)
      have h2' : common la lb = lb.length := by omega
      unfold differ
      rw [if_pos ⟨h1', h2'⟩]
    · refine zrun ?_ ?_
      refine x_true 25 rfl (by simp; omega) ?_
      refine zrun ?_ ?_
      refine cw_ret1 rfl rfl ⟨rfl, ?_⟩
      (try show Value.int _ _ = Value.int _ _); (try show Value.bool _ = Value.bool _)
      have h2' : ¬ common la lb = lb.length := by omega
      unfold differ
      rw [if_neg (fun h => h2' h.2), if_pos (.inl h1')]
  · have h1' : ¬ common la lb = la.length := by omega
    refine zrun ?_ ?_
    refine x_false 25 rfl (by simp; omega) ?_
    refine zrun ?_ ?_
    refine cw_cond rfl (fun h2 => ?_) (fun h2 => ?_) <;> (try simp at h2)
    · refine zrun ?_ ?_
      refine cw_ret1 rfl rfl ⟨rfl, ?_⟩
      (try show Value.int _ _ = Value.int _ _); (try show Value.bool _ = Value.bool _)
      have h2' : common la lb = lb.length := by omega
      unfold differ
      rw [if_neg (fun h => h1' h.1), if_pos (.inr h2')]
    · have h2' : ¬ common la lb = lb.length := by omega
      obtain ⟨x, hx⟩ : ∃ x, la[common la lb]? = some x := ⟨_, List.getElem?_eq_getElem (by omega)⟩
      obtain ⟨y, hy⟩ : ∃ y, lb[common la lb]? = some y := ⟨_, List.getElem?_eq_getElem (by omega)⟩
      have h8 := zeros8_le (x ^^^ y)
      refine zrun ?_ ?_
      refine cw_quiet mixed (by kernel_rfl) ?_
      refine zrun ?_ ?_
      refine x_load rfl rfl (hpmt (hA.get _ x hx)) rfl trivial ?_
      refine zrun ?_ ?_
      refine x_load rfl rfl (hpmt (hB.get _ y hy)) rfl trivial ?_
      refine x_ibin rfl rfl rfl rfl rfl trivial ?_
      rw [xor8]
      refine x_callq rfl rfl rfl ((bits_LeadingZeros8 (x ^^^ y) H).mono fun _ _ h => ⟨h.1.symm, h.2⟩) ?_
      refine zrun ?_ ?_
      refine cw_ret1 rfl rfl ⟨rfl, ?_⟩
      (try show Value.int _ _ = Value.int _ _); (try show Value.bool _ = Value.bool _)
      unfold differ
      rw [if_neg (fun h => h1' h.1), if_neg (fun h => h.elim h1' h2')]
      simp [hx, hy]

theorem key_Compare {va vb : Value} {la lb : Bytes} {H : Heap} (hA : Bs H va la) (hB : Bs H vb lb) : Ret Tryd.prog 67 [va, vb] H (fun v H' => H = H' ∧ v = .int .i64 (cmpB la lb)) := by
  have hC : Ret Tryd.prog 70 [va, vb] H (fun v H' => H = H' ∧ v = .int .i64 (cmpB la lb)) := by
    refine ret_of Tryd.func70 rfl rfl rfl rfl ?_
    intro w0
    refine zrun ?_ ?_
    refine x_bcmp rfl rfl rfl (hpmt hA) (hpmt hB) rfl trivial ?_
    refine zrun ?_ ?_
    refine cw_ret1 rfl rfl ⟨rfl, ?_⟩
    (try show Value.int _ _ = Value.int _ _); (try show Value.bool _ = Value.bool _)
    rfl
  refine ret_of Tryd.func67 rfl rfl rfl rfl ?_
  intro w0
  refine zrun ?_ ?_
  refine x_call rfl rfl rfl trivial (hC) ?_
  rintro _ _ ⟨rfl, rfl⟩
  refine ⟨trivial, ?_⟩
  refine zrun ?_ ?_
  refine cw_ret1 rfl rfl ⟨rfl, ?_⟩
  (try show Value.int _ _ = Value.int _ _); (try show Value.bool _ = Value.bool _)
  rfl

theorem bytes_Equal {va vb : Value} {la lb : Bytes} {H : Heap} (hA : Bs H va la) (hB : Bs H vb lb) : Ret Tryd.prog 69 [va, vb] H (fun v H' => H = H' ∧ v = .bool (la == lb)) := by
  refine ret_of Tryd.func69 rfl rfl rfl rfl ?_
  intro w0
  refine zrun ?_ ?_
  refine x_tostr rfl rfl (hpmt hA) rfl trivial ?_
  refine zrun ?_ ?_
  refine x_tostr rfl rfl (hpmt hB) rfl trivial ?_
  refine x_seql rfl rfl rfl rfl trivial ?_
  refine zrun ?_ ?_
  refine cw_ret1 rfl rfl ⟨rfl, ?_⟩
  (try show Value.int _ _ = Value.int _ _); (try show Value.bool _ = Value.bool _)
  simp

theorem key_Begins {va vb : Value} {la lb : Bytes} {H : Heap} (hA : Bs H va la) (hB : Bs H vb lb) : Ret Tryd.prog 61 [va, vb] H (fun v H' => H = H' ∧ v = .bool (begins la lb)) := by
  have sA := hA.sl
  have sB := hB.sl
  have cA := sA.cap
  have cB := sB.cap
  have hC : Ret Tryd.prog 66 [va, vb] H (fun v H' => H = H' ∧ v = .bool (begins la lb)) := by
    refine ret_of Tryd.func66 rfl rfl rfl rfl ?_
    intro w0
    refine zrun ?_ ?_
    refine x_split 10 rfl (fun h1 => ?_) (fun h1 => ?_) <;> (try simp at h1)
    · refine zrun ?_ ?_
      refine x_slice_h rfl rfl rfl (by assumption) (by omega) (by omega) rfl trivial ?_
      intro u hu hcut
      have hU := hA.cut (b := lb.length) (a := 0) hu hcut (by omega) (by omega)
      refine zrun ?_ ?_
      refine x_call rfl rfl rfl trivial (bytes_Equal hU hB) ?_
      rintro _ _ ⟨rfl, rfl⟩
      refine ⟨trivial, ?_⟩
      refine zrun ?_ ?_
      refine cw_ret1 rfl rfl ⟨rfl, ?_⟩
      (try show Value.int _ _ = Value.int _ _); (try show Value.bool _ = Value.bool _)
      simp [begins]
      omega
    · refine zrun ?_ ?_
      refine cw_ret1 rfl rfl ⟨rfl, ?_⟩
      (try show Value.int _ _ = Value.int _ _); (try show Value.bool _ = Value.bool _)
      simp [begins]
      omega
  refine ret_of Tryd.func61 rfl rfl rfl rfl ?_
  intro w0
  refine zrun ?_ ?_
  refine x_call rfl rfl rfl trivial (hC) ?_
  rintro _ _ ⟨rfl, rfl⟩
  refine ⟨trivial, ?_⟩
  refine zrun ?_ ?_
  refine cw_ret1 rfl rfl ⟨rfl, ?_⟩
  (try show Value.int _ _ = Value.int _ _); (try show Value.bool _ = Value.bool _)
  rfl

end Go.Proofs.YtkdmcbacofafpaaDoor.X
