/- Chapter 24, the document's small functions: words, numbers, digits of bytes, parts. -/
import Derived.Test.YtbcflfkajkmkdaaDoorL24b
namespace Go.Proofs.YtbcflfkajkmkdaaDoor.X
open Go Go.Proofs Go.RowKit
set_option linter.unusedVariables false
set_option linter.unusedSimpArgs false
set_option maxRecDepth 10000
set_option maxHeartbeats 4000000

section
variable {P : Program} {n : Nat} {B : Exit → Act → World → Prop} {w0 : World} {md : Md} {ops : List Oper} {rest : OT} {k : K} {σ : Sl} {H : Heap} {i : Nat}
variable {d : Nat} {ty : TypeId} {pos : String} {after : Array Edge} {g : Option (Nat × Bool)}
theorem x_strL_lh {t : Nat} {x lo hi : Operand} {l : Bytes} {kl kh : IntKind} {a h : Nat} [hT : Ty P t .string] (hg : gd ops σ g = some true) (hx : evo σ x = some (strV l)) (hlo : evo σ lo = some (.int kl (a : Nat))) (hhi : evo σ hi = some (.int kh (h : Nat))) (h1 : a ≤ h) (h2 : h ≤ l.length) (hd : Nat.blt d n = true) (hk : okq ops md i ⟨some d, .slice t x (some lo) (some hi) none, ty, pos, after, g⟩ H)
    (hh : XW P n B w0 md ops rest k ((d, strV ((l.take h).drop a)) :: σ) H) : XW P n B w0 md ops (.op i ⟨some d, .slice t x (some lo) (some hi) none, ty, pos, after, g⟩ rest) k σ H := by
  refine x_str_lh hg hx hlo hhi (by omega) (by omega) (by rw [strV_size]; omega) hd hk ?_
  have e : (⟨l.toArray⟩ : ByteArray).extract (a : Int).toNat (h : Int).toNat = ⟨((l.take h).drop a).toArray⟩ := by
    apply ByteArray.ext
    apply Array.ext'
    rw [Lib.extract_data, List.drop_take]
    rfl
  rw [e]
  exact hh
end

theorem law_wordsR (H : Heap) : Ret Tryd.prog 34 [] H (fun r H' => New H H' (names24.map strV) ∧ r = .slice (some ⟨H.size, 0, none⟩) 23 23) := by
  refine ret_of Tryd.func34 rfl rfl rfl rfl ?_
  intro w0
  refine zrun ?_ ?_
  refine x_buildSlice (vs := names24.map strV) rfl rfl rfl rfl (by omega) (by simp [strV, oneC, Value.oneCell']) rfl trivial ?_
  intro H1 hn1
  refine ⟨trivial, ?_⟩
  refine zrun ?_ ?_
  exact cw_ret1 rfl rfl ⟨hn1, rfl⟩

/-! ### numbers -/
/-- the digits of a number, none of 0 -/
def dg (u : Nat) : Bytes := if u = 0 then [] else Lib.decDigits u
theorem dec_dg (u : Nat) : Lib.decDigits u = dg (u / 10) ++ [UInt8.ofNat (48 + u % 10)] := by
  rw [Lib.decDigits]
  unfold dg
  split
  · rename_i h
    rw [if_pos (by omega), Nat.mod_eq_of_lt h]
    rfl
  · rw [if_neg (by omega)]
theorem dig8 : ∀ d : Fin 10, IntKind.u8.wrap (48 + (d.val : Int)) = (((UInt8.ofNat (48 + d.val)).toNat : Nat) : Int) := by decide +kernel
theorem law_digitsR {v : Int} {H : Heap} (hv : U64 v) : Ret Tryd.prog 38 [.int .u64 v] H (fun r H' => Keep Non H H' ∧ r = strV (dec v)) := by
  have hdl := dec_le hv
  refine ret_of Tryd.func38 rfl rfl rfl rfl ?_
  intro w0
  refine zrun ?_ ?_
  refine cw_loop (fun t : Int × Bytes => [(0, .int .u64 t.1), (3, strV t.2)]) (fun t H' => Keep Non H H' ∧ U64 t.1 ∧ ((t.2 = [] ∧ t.1 = v) ∨ (t.2 ≠ [] ∧ dec v = dg t.1.toNat ++ t.2))) (fun t => t.1.toNat + (if t.2 = [] then 1 else 0)) (v, []) (by repeat (first | exact True.intro | refine ⟨rfl, ?_⟩)) ⟨Keep.refl _ _, hv, .inl ⟨rfl, rfl⟩⟩ ?_
  rintro ⟨m, s⟩ H1 ⟨hk1, hm, hi⟩
  simp only at hm hi
  dsimp only
  have hm0 := hm.1
  have hm1 := hm.2
  refine zrunc ?_ ?_
  refine cw_cut (fun b : Bool => [(0, .int .u64 m), (3, strV s), (9, .bool b)]) (fun b H' => H1 = H' ∧ b = (decide (m > 0) || decide (s = []))) ?_ ?_
  · refine zrun ?_ ?_
    by_cases hp : m > 0
    · rw [decide_eq_true hp]
      refine zrun ?_ ?_
      exact nw_meet true (by repeat (first | exact True.intro | refine ⟨rfl, ?_⟩)) ⟨rfl, by simp⟩
    · rw [decide_eq_false hp]
      refine zrun ?_ ?_
      refine x_seqL (b := []) rfl rfl rfl rfl trivial ?_
      refine zrun ?_ ?_
      exact nw_meet (decide (s = [])) (by repeat (first | exact True.intro | refine ⟨rfl, ?_⟩)) ⟨rfl, by simp⟩
  rintro b _ ⟨rfl, hb⟩
  cases b with
  | false =>
    have hb := hb.symm
    rw [Bool.or_eq_false_iff, decide_eq_false_iff_not, decide_eq_false_iff_not] at hb
    obtain ⟨h1, h2⟩ := hb
    have he : dec v = s := by
      rcases hi with ⟨h3, _⟩ | ⟨_, h3⟩
      · exact absurd h3 h2
      · rw [h3, show m.toNat = 0 by omega]
        rfl
    refine zrun ?_ ?_
    exact cw_ret1 rfl rfl ⟨hk1, by rw [he]⟩
  | true =>
    have hb := hb.symm
    rw [Bool.or_eq_true, decide_eq_true_iff, decide_eq_true_iff] at hb
    have e1 : m.tmod 10 = ((m.toNat % 10 : Nat) : Int) := by rw [Int.tmod_eq_emod_of_nonneg hm0]; omega
    have hd : m.toNat % 10 < 10 := Nat.mod_lt _ (by omega)
    have hst : dec v = dg (m.toNat / 10) ++ (UInt8.ofNat (48 + m.toNat % 10) :: s) := by
      rcases hi with ⟨h3, h4⟩ | ⟨h3, h4⟩
      · subst h3 h4
        exact dec_dg m.toNat
      · have hp : m.toNat ≠ 0 := by
          rcases hb with hb | hb
          · omega
          · exact absurd hb h3
        rw [h4]
        conv => lhs; unfold dg
        rw [if_neg hp, dec_dg, List.append_assoc]
        rfl
    have hsl : s.length ≤ 20 := by
      have := congrArg List.length hst
      rw [List.length_append, List.length_cons] at this
      omega
    refine zrun ?_ ?_
    refine x_rem rfl rfl rfl (by decide) rfl trivial ?_
    rw [e1]
    refine zrun ?_ ?_
    rw [wrap_u64 (a := 48 + ((m.toNat % 10 : Nat) : Int)) (by omega) (by omega)]
    refine x_conv_int rfl rfl rfl trivial ?_
    rw [dig8 ⟨m.toNat % 10, hd⟩]
    refine zrun ?_ ?_
    refine x_buildSlice (vs := bvs [UInt8.ofNat (48 + m.toNat % 10)]) rfl rfl rfl rfl (by omega) (bvs_oneC _) rfl trivial ?_
    intro H2 hn2
    refine ⟨trivial, ?_⟩
    have hB : Bs H2 (.slice (some ⟨H1.size, 0, none⟩) 1 1) [UInt8.ofNat (48 + m.toNat % 10)] := ⟨isSl_some (Nat.le_refl _) (by omega), hn2.blk.cels 0 1 (by simp [bvs])⟩
    refine zrun ?_ ?_
    refine x_tostr rfl rfl (hpmt hB) rfl trivial ?_
    refine zrun ?_ ?_
    refine x_cat (a := [UInt8.ofNat (48 + m.toNat % 10)]) (by simp; omega) rfl rfl rfl rfl trivial ?_
    refine zrun ?_ ?_
    refine x_quo rfl rfl rfl (by decide) rfl trivial ?_
    have e2 : m.tdiv 10 = m / 10 := Int.tdiv_eq_ediv_of_nonneg hm0
    rw [e2, wrap_u64 (by omega) (by omega)]
    refine zrun ?_ ?_
    refine nw_round (m / 10, [UInt8.ofNat (48 + m.toNat % 10)] ++ s) (by repeat (first | exact True.intro | refine ⟨rfl, ?_⟩)) ⟨hk1.non_trans hn2.keep, ⟨by show 0 ≤ m / 10; omega, by show m / 10 ≤ _; omega⟩, .inr ⟨by simp, ?_⟩⟩ ?_
    · show dec v = dg (m / 10).toNat ++ _
      rw [show (m / 10).toNat = m.toNat / 10 by omega]
      exact hst
    · show (m / 10).toNat + (if [UInt8.ofNat (48 + m.toNat % 10)] ++ s = [] then 1 else 0) < m.toNat + (if s = [] then 1 else 0)
      rw [if_neg (by simp)]
      rcases hb with hb | hb
      · split <;> omega
      · rw [if_pos hb]; omega
theorem law_numberR {v : Int} {H : Heap} (hv : I64 v) : Ret Tryd.prog 36 [.int .i64 v] H (fun r H' => Keep Non H H' ∧ r = strV (Lib.itoa v)) := by
  have h0 := hv.1
  have h1 := hv.2
  refine ret_of Tryd.func36 rfl rfl rfl rfl ?_
  intro w0
  refine zrun ?_ ?_
  refine cw_cond rfl (fun hn => ?_) (fun hn => ?_) <;> (try simp at hn)
  · refine zrun ?_ ?_
    refine x_conv_int rfl rfl rfl trivial ?_
    refine zrun ?_ ?_
    refine x_neg rfl rfl rfl trivial ?_
    have e : IntKind.u64.wrap (-IntKind.u64.wrap v) = -v := by rw [wrap_u64_mod, wrap_u64_mod]; omega
    rw [e]
    have hdl := dec_le (v := -v) ⟨by omega, by omega⟩
    refine zrun ?_ ?_
    refine x_call rfl rfl rfl trivial (law_digitsR ⟨by omega, by omega⟩) ?_
    rintro _ H1 ⟨hk1, rfl⟩
    refine ⟨trivial, ?_⟩
    refine zrun ?_ ?_
    refine x_cat (a := [45]) (by simp; omega) rfl rfl rfl rfl trivial ?_
    refine zrun ?_ ?_
    refine cw_ret1 rfl rfl ⟨hk1, ?_⟩
    unfold Lib.itoa dec
    rw [if_pos hn, show (-v).toNat = v.natAbs by omega]
    rfl
  · refine zrun ?_ ?_
    refine x_conv_int rfl rfl rfl trivial ?_
    rw [wrap_u64 (by omega) (by omega)]
    refine zrun ?_ ?_
    refine x_call rfl rfl rfl trivial (law_digitsR ⟨by omega, by omega⟩) ?_
    rintro _ H1 ⟨hk1, rfl⟩
    refine ⟨trivial, ?_⟩
    refine zrun ?_ ?_
    refine cw_ret1 rfl rfl ⟨hk1, ?_⟩
    unfold Lib.itoa dec
    rw [if_neg (by omega)]
theorem hexT_at : ∀ j : Fin 16, (hexTab.take (j.val + 1)).drop j.val = [hexTab.getD j.val 0] := by decide +kernel
theorem law_hexR {va : Value} {l : Bytes} {H : Heap} (hA : Bs H va l) (hl : l.length ≤ 200000) : Ret Tryd.prog 37 [va] H (fun r H' => Keep Non H H' ∧ r = strV (hexB l)) := by
  have sA := hA.sl
  refine ret_of Tryd.func37 rfl rfl rfl rfl ?_
  intro w0
  refine zrun ?_ ?_
  refine cw_loop (fun j : Nat => [(0, va), (3, strV (hexB (l.take j))), (4, .int .i64 (j : Nat))]) (fun j H' => H = H' ∧ j ≤ l.length) (fun j => l.length - j) 0 (by repeat (first | exact True.intro | refine ⟨rfl, ?_⟩)) ⟨rfl, by omega⟩ ?_
  rintro j _ ⟨rfl, hj⟩
  refine zrun ?_ ?_
  refine cw_cond rfl (fun h1 => ?_) (fun h1 => ?_) <;> (try simp at h1)
  · obtain ⟨x, hx⟩ := getp (l := l) (j := j) (by omega)
    have hx256 : x.toNat < 256 := x.toNat_lt
    have h16 : x.toNat / 16 < 16 := by omega
    have h16' : x.toNat % 16 < 16 := by omega
    have hhl := hexB_length (l.take j)
    rw [List.length_take] at hhl
    have hkr := Keep.refl Non H
    have hcx := hA.get j x hx
    have w1 : IntKind.u8.wrap (((x.toNat / 16 : Nat) : Int) + 1) = ((x.toNat / 16 + 1 : Nat) : Int) := by rw [wrap_u8 (by omega) (by omega)]; rfl
    have w2 : IntKind.u8.wrap (((x.toNat % 16 : Nat) : Int) + 1) = ((x.toNat % 16 + 1 : Nat) : Int) := by rw [wrap_u8 (by omega) (by omega)]; rfl
    have ht : hexTab.length = 16 := rfl
    refine zrun ?_ ?_
    refine cw_held (fun _ => Keep Non H) ⟨[], [(4, 0), (9, 0), (17, 0), (22, 0)]⟩ (.op 0 (.op 1 (.op 2 (.op 3 (.op 4 (.op 5 (.op 6 (.op 7 (.op 8 (.op 9 (.op 10 (.op 11 (.op 12 (.op 13 (.op 14 (.op 15 (.op 16 (.op 17 (.op 18 (.op 19 (.op 20 (.op 21 (.op 22 (.op 23 (.op 24 (.op 25 (.op 26 (.op 27 (.nil))))))))))))))))))))))))))))) panicOk_body mixed (by kernel_rfl) ?_
    refine zhrun ?_ ?_
    refine x_load rfl rfl (hpmk rfl (fun _ hk => hk.cel hcx (fun h => h))) rfl (okq_load rfl rfl (by assumption)) ?_
    refine zhrun ?_ ?_
    refine x_shr rfl rfl rfl (by omega) rfl (okq_reg rfl rfl) ?_
    rw [hex_hi ⟨x.toNat, hx256⟩]
    refine zhrun ?_ ?_
    refine x_load rfl rfl (hpmk rfl (fun _ hk => hk.cel hcx (fun h => h))) rfl (okq_load rfl rfl (by assumption)) ?_
    refine zhrun ?_ ?_
    refine x_shr rfl rfl rfl (by omega) rfl (okq_reg rfl rfl) ?_
    rw [hex_hi ⟨x.toNat, hx256⟩]
    refine zhrun ?_ ?_
    rw [show IntKind.u8.wrap (((⟨x.toNat, hx256⟩ : Fin 256).val / 16 : Nat) + 1 : Int) = ((x.toNat / 16 + 1 : Nat) : Int) from w1]
    refine x_strL_lh (l := hexTab) (a := x.toNat / 16) (h := x.toNat / 16 + 1) rfl rfl rfl rfl (by omega) (by rw [ht]; omega) rfl (okq_reg rfl rfl) ?_
    rw [hexT_at ⟨x.toNat / 16, h16⟩]
    refine zhrun ?_ ?_
    refine x_cat (by simp; omega) rfl rfl rfl rfl (okq_reg rfl rfl) ?_
    refine zhrun ?_ ?_
    refine x_load rfl rfl (hpmk rfl (fun _ hk => hk.cel hcx (fun h => h))) rfl (okq_load rfl rfl (by assumption)) ?_
    refine zhrun ?_ ?_
    rw [hex_lo ⟨x.toNat, hx256⟩]
    refine x_load rfl rfl (hpmk rfl (fun _ hk => hk.cel hcx (fun h => h))) rfl (okq_load rfl rfl (by assumption)) ?_
    refine zhrun ?_ ?_
    rw [hex_lo ⟨x.toNat, hx256⟩]
    rw [show IntKind.u8.wrap (((⟨x.toNat, hx256⟩ : Fin 256).val % 16 : Nat) + 1 : Int) = ((x.toNat % 16 + 1 : Nat) : Int) from w2]
    refine x_strL_lh (l := hexTab) (a := x.toNat % 16) (h := x.toNat % 16 + 1) rfl rfl rfl rfl (by omega) (by rw [ht]; omega) rfl (okq_reg rfl rfl) ?_
    rw [hexT_at ⟨x.toNat % 16, h16'⟩]
    refine zhrun ?_ ?_
    refine x_cat (by simp; omega) rfl rfl rfl rfl (okq_reg rfl rfl) ?_
    refine zhrun ?_ ?_
    have e : hexB (l.take (j + 1)) = hexB (l.take j) ++ [hexTab.getD (x.toNat / 16) 0] ++ [hexTab.getD (x.toNat % 16) 0] := by
      rw [List.take_add_one, hx]
      show hexB (l.take j ++ [x]) = _
      rw [hexB_snoc, List.append_assoc]
      rfl
    rw [show hexB (l.take j) ++ [hexTab.getD (⟨x.toNat / 16, h16⟩ : Fin 16).val 0] ++ [hexTab.getD (⟨x.toNat % 16, h16'⟩ : Fin 16).val 0] = hexB (l.take (j + 1)) from e.symm]
    refine zrun ?_ ?_
    exact nw_round (j + 1) (by repeat (first | exact True.intro | refine ⟨rfl, ?_⟩)) ⟨rfl, by omega⟩ (by omega)
  · obtain rfl : j = l.length := by omega
    refine zrun ?_ ?_
    refine cw_ret1 rfl rfl ⟨Keep.refl _ _, ?_⟩
    rw [List.take_length]

/-! ### read leniently -/
theorem digR_lt (c : UInt8) : digR c < 16 := by
  unfold digR
  split
  · omega
  · split <;> omega
theorem law_digitR (c : UInt8) (H : Heap) : Ret Tryd.prog 62 [.int .u8 c.toNat] H (fun r H' => H = H' ∧ r = .int .u8 (digR c : Nat)) := by
  have hc : c.toNat < 256 := c.toNat_lt
  refine ret_of Tryd.func62 rfl rfl rfl rfl ?_
  intro w0
  refine zrun ?_ ?_
  by_cases h1 : (c.toNat : Int) ≥ 48
  · rw [decide_eq_true h1]
    refine zrun ?_ ?_
    by_cases h2 : (c.toNat : Int) ≤ 57
    · rw [decide_eq_true h2]
      refine zrun ?_ ?_
      have e : IntKind.u8.wrap ((c.toNat : Int) - 48) = ((digR c : Nat) : Int) := by
        rw [wrap_u8 (by omega) (by omega)]
        unfold digR
        rw [if_pos (by omega)]
        omega
      rw [e]
      exact cw_ret1 rfl rfl ⟨rfl, rfl⟩
    · rw [decide_eq_false h2]
      refine zrun ?_ ?_
      by_cases h3 : (c.toNat : Int) ≥ 97
      · rw [decide_eq_true h3]
        refine zrun ?_ ?_
        by_cases h4 : (c.toNat : Int) ≤ 102
        · rw [decide_eq_true h4]
          refine zrun ?_ ?_
          have e : IntKind.u8.wrap (IntKind.u8.wrap ((c.toNat : Int) - 97) + 10) = ((digR c : Nat) : Int) := by
            rw [wrap_u8 (a := (c.toNat : Int) - 97) (by omega) (by omega), wrap_u8 (by omega) (by omega)]
            unfold digR
            rw [if_neg (by omega), if_pos (by omega)]
            omega
          rw [e]
          exact cw_ret1 rfl rfl ⟨rfl, rfl⟩
        · rw [decide_eq_false h4]
          refine zrun ?_ ?_
          refine cw_ret1 rfl rfl ⟨rfl, ?_⟩
          unfold digR
          rw [if_neg (by omega), if_neg (by omega)]
          rfl
      · rw [decide_eq_false h3]
        refine zrun ?_ ?_
        refine cw_ret1 rfl rfl ⟨rfl, ?_⟩
        unfold digR
        rw [if_neg (by omega), if_neg (by omega)]
        rfl
  · rw [decide_eq_false h1]
    refine zrun ?_ ?_
    rw [decide_eq_false (show ¬ (c.toNat : Int) ≥ 97 by omega)]
    refine zrun ?_ ?_
    refine cw_ret1 rfl rfl ⟨rfl, ?_⟩
    unfold digR
    rw [if_neg (by omega), if_neg (by omega)]
    rfl
theorem law_readR {s : Bytes} {H : Heap} (hs : s.length ≤ 1000000) : Ret Tryd.prog 47 [strV s] H (fun r H' => H = H' ∧ r = .int .u64 (rdU s)) := by
  have hsz := strV_size s
  refine ret_of Tryd.func47 rfl rfl rfl rfl ?_
  intro w0
  refine zrun ?_ ?_
  refine cw_loop (fun t : Nat × Nat × Bool => [(0, strV s), (3, .int .u64 (t.2.1 : Nat)), (4, .bool t.2.2), (5, .int .i64 (t.1 : Nat))]) (fun t H' => H = H' ∧ t.1 ≤ s.length ∧ (s.take t.1).foldl rdStep (0, false) = t.2) (fun t => s.length - t.1) (0, 0, false) (by repeat (first | exact True.intro | refine ⟨rfl, ?_⟩)) ⟨rfl, by simp, rfl⟩ ?_
  rintro ⟨j, u, sg⟩ _ ⟨rfl, hj, hi⟩
  simp only at hj hi
  dsimp only
  have hu := rdStep_lt (s.take j) (0, false) (by simp)
  rw [hi] at hu
  simp only at hu
  refine zrun ?_ ?_
  refine x_len_str rfl rfl rfl trivial ?_
  rw [hsz]
  refine zrun ?_ ?_
  refine cw_cond rfl (fun h1 => ?_) (fun h1 => ?_) <;> (try simp at h1)
  · obtain ⟨c, hc⟩ := getp (l := s) (j := j) (by omega)
    have hd := digR_lt c
    have hst : (s.take (j + 1)).foldl rdStep (0, false) = rdStep (u, sg) c := by
      rw [List.take_add_one, hc, List.foldl_append, hi]
      rfl
    refine zrun ?_ ?_
    refine x_index_str (c := c) rfl rfl rfl (by omega) (by rw [List.getElem?_toArray]; exact hc) rfl trivial ?_
    refine zrun ?_ ?_
    by_cases h45 : c.toNat = 45
    · rw [show (((c.toNat : Nat) : Int) == 45) = true by simp [h45]]
      refine zrun ?_ ?_
      exact nw_round (j + 1, u, true) (by repeat (first | exact True.intro | refine ⟨rfl, ?_⟩)) ⟨rfl, by show j + 1 ≤ _; omega, by show (s.take (j + 1)).foldl rdStep (0, false) = (u, true); rw [hst]; unfold rdStep; rw [if_pos h45]⟩ (by show s.length - (j + 1) < s.length - j; omega)
    · rw [show (((c.toNat : Nat) : Int) == 45) = false by simp; omega]
      refine zrun ?_ ?_
      refine x_index_str (c := c) rfl rfl rfl (by omega) (by rw [List.getElem?_toArray]; exact hc) rfl trivial ?_
      refine zrun ?_ ?_
      refine x_call rfl rfl rfl trivial (law_digitR c _) ?_
      rintro _ _ ⟨rfl, rfl⟩
      refine ⟨trivial, ?_⟩
      refine zrun ?_ ?_
      refine x_conv_int rfl rfl rfl trivial ?_
      rw [wrap_u64 (a := ((digR c : Nat) : Int)) (by omega) (by omega)]
      refine zrun ?_ ?_
      have e : IntKind.u64.wrap (IntKind.u64.wrap ((u : Int) * 10) + ((digR c : Nat) : Int)) = (((u * 10 + digR c) % 18446744073709551616 : Nat) : Int) := by
        rw [wrap_u64_mod, wrap_u64_mod]
        omega
      rw [e]
      exact nw_round (j + 1, (u * 10 + digR c) % 18446744073709551616, sg) (by repeat (first | exact True.intro | refine ⟨rfl, ?_⟩)) ⟨rfl, by show j + 1 ≤ _; omega, by show (s.take (j + 1)).foldl rdStep (0, false) = ((u * 10 + digR c) % 18446744073709551616, sg); rw [hst]; unfold rdStep; rw [if_neg h45]⟩ (by show s.length - (j + 1) < s.length - j; omega)
  · obtain rfl : j = s.length := by omega
    rw [List.take_length] at hi
    have e0 : rdU s = if sg = true then (-(u : Int)) % 18446744073709551616 else (u : Int) := by unfold rdU; rw [hi]
    cases sg with
    | true =>
      refine zrun ?_ ?_
      refine x_neg rfl rfl rfl trivial ?_
      rw [wrap_u64_mod]
      refine zrun ?_ ?_
      exact cw_ret1 rfl rfl ⟨rfl, by rw [e0]; rfl⟩
    | false =>
      refine zrun ?_ ?_
      exact cw_ret1 rfl rfl ⟨rfl, by rw [e0]; rfl⟩
theorem shl8 : ∀ a : Fin 16, IntKind.u8.wrap ((a.val : Int) * 2 ^ (min ((4 : Int)).toNat IntKind.u8.bits)) = ((a.val * 16 % 256 : Nat) : Int) := by decide +kernel
theorem or8 : ∀ a b : Fin 16, IntKind.u8.wrap (BitVec.ofInt IntKind.u8.bits ((a.val * 16 % 256 : Nat) : Int) ||| BitVec.ofInt IntKind.u8.bits (b.val : Int)).toNat = (((UInt8.ofNat (a.val * 16 % 256 ||| b.val)).toNat : Nat) : Int) := by decide +kernel
theorem bytR_take (s : Bytes) : ∀ (j : Nat) (a b : UInt8), s[2 * j]? = some a → s[2 * j + 1]? = some b → bytR (s.take (2 * (j + 1))) = bytR (s.take (2 * j)) ++ [UInt8.ofNat (digR a * 16 % 256 ||| digR b)] := by
  intro j
  induction j generalizing s with
  | zero =>
    intro a b ha hb
    match s, ha, hb with
    | x :: y :: r, ha, hb =>
      simp at ha hb
      subst ha hb
      simp [bytR]
  | succ j ih =>
    intro a b ha hb
    match s, ha, hb with
    | x :: y :: r, ha, hb =>
      have ha' : r[2 * j]? = some a := by rw [← ha]; simp [show 2 * (j + 1) = 2 * j + 1 + 1 by omega]
      have hb' : r[2 * j + 1]? = some b := by rw [← hb]; simp [show 2 * (j + 1) + 1 = 2 * j + 1 + 1 + 1 by omega]
      have := ih r a b ha' hb'
      have e1 : (x :: y :: r).take (2 * (j + 1 + 1)) = x :: y :: r.take (2 * (j + 1)) := by
        rw [show 2 * (j + 1 + 1) = 2 * (j + 1) + 1 + 1 by omega]
        rfl
      have e2 : (x :: y :: r).take (2 * (j + 1)) = x :: y :: r.take (2 * j) := by
        rw [show 2 * (j + 1) = 2 * j + 1 + 1 by omega]
        rfl
      rw [e1, e2]
      simp [bytR, this]
    | [x], ha, hb => simp at ha
    | [], ha, hb => simp at ha
theorem bytR_odd (s : Bytes) : bytR s = bytR (s.take (2 * (s.length / 2))) := by
  match s with
  | [] => rfl
  | [x] => simp [bytR]
  | x :: y :: r =>
    have e : (x :: y :: r).take (2 * ((x :: y :: r).length / 2)) = x :: y :: r.take (2 * (r.length / 2)) := by
      have : (x :: y :: r).length / 2 = r.length / 2 + 1 := by simp; omega
      rw [this, show 2 * (r.length / 2 + 1) = 2 * (r.length / 2) + 1 + 1 by omega]
      rfl
    rw [e]
    simp only [bytR]
    rw [← bytR_odd r]
theorem bytR_length (s : Bytes) : (bytR s).length ≤ s.length := by
  match s with
  | [] => simp [bytR]
  | [x] => simp [bytR]
  | x :: y :: r =>
    have := bytR_length r
    simp [bytR]
    omega
theorem law_bytesR {s : Bytes} {H : Heap} (hs : s.length ≤ 1000000) : Ret Tryd.prog 48 [strV s] H (fun r H' => Keep Non H H' ∧ Own 1 H' r (bytR s).length (bvs (bytR s)) ∧ Fresh H r) := by
  have hsz := strV_size s
  refine ret_of Tryd.func48 rfl rfl rfl rfl ?_
  intro w0
  refine zrun ?_ ?_
  refine cw_loop (fun t : Nat × Value => [(0, strV s), (3, t.2), (4, .int .i64 (2 * t.1 : Nat))]) (fun t H' => 2 * t.1 ≤ s.length ∧ Keep Non H H' ∧ Own 1 H' t.2 t.1 (bvs (bytR (s.take (2 * t.1)))) ∧ Fresh H t.2) (fun t => s.length - 2 * t.1) (0, .slice none 0 0) (by repeat (first | exact True.intro | refine ⟨rfl, ?_⟩)) ⟨Nat.zero_le _, Keep.refl _ _, Own.nil _ _, Fresh.nil _⟩ ?_
  rintro ⟨j, v⟩ H1 ⟨hj, hk1, hO, hf⟩
  simp only at hj hO hf
  dsimp only
  refine zrun ?_ ?_
  refine x_len_str rfl rfl rfl trivial ?_
  rw [hsz]
  refine zrun ?_ ?_
  refine cw_cond rfl (fun h1 => ?_) (fun h1 => ?_) <;> (try simp at h1)
  · have hj2 : 2 * j + 1 < s.length := by omega
    obtain ⟨a, ha⟩ : ∃ a, s[2 * j]? = some a := ⟨_, List.getElem?_eq_getElem (by omega)⟩
    obtain ⟨b, hb⟩ : ∃ b, s[2 * j + 1]? = some b := ⟨_, List.getElem?_eq_getElem (by omega)⟩
    have la := digR_lt a
    have lb := digR_lt b
    refine zrun ?_ ?_
    refine cw_held (fun _ => Keep Non H1) ⟨[4, 10, 12, 13], []⟩ (.op 0 (.op 1 (.op 2 (.op 3 (.op 6 (.op 7 (.op 8 (.op 9 (.op 4 (.op 5 (.op 10 (.op 11 (.op 12 (.op 13 (.op 14 (.nil)))))))))))))))) panicOk_body mixed (by kernel_rfl) ?_
    refine zhrun ?_ ?_
    refine x_index_str (c := a) rfl rfl rfl (by omega) (by rw [List.getElem?_toArray]; exact ha) rfl (okq_reg rfl rfl) ?_
    refine zhrun ?_ ?_
    refine x_index_str (c := b) rfl rfl rfl (by omega) (by rw [List.getElem?_toArray]; exact hb) rfl (okq_reg rfl rfl) ?_
    refine zhrun ?_ ?_
    refine x_call rfl rfl rfl ⟨rfl, rfl⟩ (law_digitR a _) ?_
    rintro _ _ ⟨rfl, rfl⟩
    refine ⟨okm_nil rfl, ?_⟩
    refine zhrun ?_ ?_
    refine x_shl rfl rfl rfl (by omega) rfl (okq_reg rfl rfl) ?_
    rw [shl8 ⟨digR a, la⟩]
    refine zhrun ?_ ?_
    refine x_call rfl rfl rfl ⟨rfl, rfl⟩ (law_digitR b _) ?_
    rintro _ _ ⟨rfl, rfl⟩
    refine ⟨okm_nil rfl, ?_⟩
    refine zhrun ?_ ?_
    rw [or8 ⟨digR a, la⟩ ⟨digR b, lb⟩]
    refine x_buildSlice (vs := bvs [UInt8.ofNat (digR a * 16 % 256 ||| digR b)]) rfl rfl rfl rfl (by omega) (bvs_oneC _) rfl ⟨rfl, rfl⟩ ?_
    intro H2 hn2
    refine ⟨okm_nil rfl, ?_⟩
    have hO2 := hO.keep hn2.keep (fun _ h => h)
    have hk2 := hn2.old hk1
    refine zhrun ?_ ?_
    refine x_append (v := v) (by rfl) (by rfl) (by rfl) rfl rfl rfl hO2 (isSl_some (Nat.le_refl _) (by omega)) (m := 1) (cx := bvs [UInt8.ofNat (digR a * 16 % 256 ||| digR b)]) rfl (hn2.blk.cels 0 1 (by simp [bvs])) (bvs_oneC _) (by omega) rfl ⟨rfl, rfl⟩ ?_
    intro v' H3 hap
    refine ⟨okm_nil rfl, ?_⟩
    have hk3 := hap.old hf hk2
    have hf3 := hap.fresh hf hk2.size
    refine zhrun ?_ ?_
    refine zrun ?_ ?_
    refine nw_round (j + 1, v') (by repeat (first | exact True.intro | refine ⟨rfl, ?_⟩)) ⟨by show 2 * (j + 1) ≤ _; omega, hk3, ?_, hf3⟩ (by show s.length - 2 * (j + 1) < s.length - 2 * j; omega)
    show Own 1 H3 v' (j + 1) (bvs (bytR (s.take (2 * (j + 1)))))
    rw [bytR_take s j a b ha hb, bvs_append]
    exact hap.own
  · have hj2 : 2 * j = 2 * (s.length / 2) := by omega
    rw [hj2, ← bytR_odd] at hO
    have hlen : (bytR s).length = j := by
      have := hO.len
      rw [bvs_length] at this
      omega
    refine zrun ?_ ?_
    refine cw_ret1 rfl rfl ⟨hk1, ?_, hf⟩
    rw [hlen]
    exact hO

/-! ### parts -/
/-- what is known while parts are found: from where, how far, what was found -/
def PartI (c : UInt8) (s : Bytes) (j from_ : Nat) (l : List Bytes) : Prop :=
  (j ≤ s.length ∧ from_ ≤ j ∧ c ∉ (s.take j).drop from_ ∧ partsC c s = l ++ partsC c (s.drop from_)) ∨ (j = s.length + 1 ∧ partsC c s = l)
theorem PartI.zero (c : UInt8) (s : Bytes) : PartI c s 0 0 [] := .inl ⟨Nat.zero_le _, Nat.le_refl _, by simp, by simp⟩
theorem mid_snoc {s : Bytes} {j f : Nat} {x : UInt8} (hf : f ≤ j) (hx : s[j]? = some x) : (s.take (j + 1)).drop f = (s.take j).drop f ++ [x] := by
  have hj := (List.getElem?_eq_some_iff.1 hx).1
  rw [List.take_add_one, hx, List.drop_append_of_le_length (by rw [List.length_take]; omega)]
  rfl
theorem PartI.pass {c x : UInt8} {s : Bytes} {j f : Nat} {l : List Bytes} (h : PartI c s j f l) (hx : s[j]? = some x) (hne : x ≠ c) : PartI c s (j + 1) f l := by
  have hj := (List.getElem?_eq_some_iff.1 hx).1
  rcases h with ⟨h1, h2, h3, h4⟩ | ⟨h1, _⟩
  · refine .inl ⟨by omega, by omega, ?_, h4⟩
    rw [mid_snoc h2 hx, List.mem_append, List.mem_singleton]
    rintro (h | h)
    · exact h3 h
    · exact hne h.symm
  · omega
theorem PartI.cut {c : UInt8} {s : Bytes} {j f : Nat} {l : List Bytes} (h : PartI c s j f l) (hx : s[j]? = some c) : PartI c s (j + 1) (j + 1) (l ++ [(s.take j).drop f]) := by
  have hj := (List.getElem?_eq_some_iff.1 hx).1
  rcases h with ⟨h1, h2, h3, h4⟩ | ⟨h1, _⟩
  · refine .inl ⟨by omega, by omega, ?_, ?_⟩
    · rw [List.drop_eq_nil_of_le (by rw [List.length_take]; omega)]; simp
    · have e : s.drop f = (s.take j).drop f ++ c :: s.drop (j + 1) := by
        conv => lhs; rw [← List.take_append_drop j s]
        rw [List.drop_append_of_le_length (by rw [List.length_take]; omega), List.drop_eq_getElem_cons hj]
        rw [List.getElem?_eq_getElem hj] at hx
        injection hx with hx
        rw [hx]
      rw [h4, e, partsC_cons h3]
      simp
  · omega
theorem PartI.last {c : UInt8} {s : Bytes} {f : Nat} {l : List Bytes} (h : PartI c s s.length f l) : PartI c s (s.length + 1) (s.length + 1) (l ++ [(s.take s.length).drop f]) := by
  rcases h with ⟨h1, h2, h3, h4⟩ | ⟨h1, _⟩
  · refine .inr ⟨rfl, ?_⟩
    rw [List.take_length] at h3 ⊢
    rw [h4, partsC_free h3]
  · omega
def svs (l : List Bytes) : List Value := l.map strV
theorem svs_oneC (l : List Bytes) : ∀ v ∈ svs l, oneC v = true := by
  intro v hv
  unfold svs at hv
  rw [List.mem_map] at hv
  obtain ⟨a, _, rfl⟩ := hv
  rfl
theorem law_partsR {s : Bytes} {c : UInt8} {H : Heap} (hs : s.length ≤ 1000000) : Ret Tryd.prog 33 [strV s, .int .u8 c.toNat] H (fun r H' => Keep Non H H' ∧ Own 1 H' r (partsC c s).length (svs (partsC c s)) ∧ Fresh H r) := by
  have hsz := strV_size s
  refine ret_of Tryd.func33 rfl rfl rfl rfl ?_
  intro w0
  refine zrun ?_ ?_
  refine cw_loop (fun t : Nat × Nat × List Bytes × Value => [(0, strV s), (1, .int .u8 c.toNat), (5, t.2.2.2), (6, .int .i64 (t.2.1 : Nat)), (7, .int .i64 (t.1 : Nat))]) (fun t H' => t.1 ≤ s.length + 1 ∧ t.2.2.1.length ≤ t.1 ∧ Keep Non H H' ∧ PartI c s t.1 t.2.1 t.2.2.1 ∧ Own 1 H' t.2.2.2 t.2.2.1.length (svs t.2.2.1) ∧ Fresh H t.2.2.2) (fun t => s.length + 1 - t.1) (0, 0, [], .slice none 0 0) (by repeat (first | exact True.intro | refine ⟨rfl, ?_⟩)) ⟨Nat.zero_le _, Nat.le_refl _, Keep.refl _ _, PartI.zero c s, Own.nil _ _, Fresh.nil _⟩ ?_
  rintro ⟨j, f, l, v⟩ H1 ⟨hj, hll, hk1, hI, hO, hf⟩
  simp only at hj hll hI hO hf
  dsimp only
  refine zrun ?_ ?_
  refine x_len_str rfl rfl rfl trivial ?_
  rw [hsz]
  refine zrun ?_ ?_
  refine cw_cond rfl (fun h1 => ?_) (fun h1 => ?_) <;> (try simp at h1)
  · have hfj : f ≤ j := by
      rcases hI with ⟨_, h, _, _⟩ | ⟨h, _⟩
      · exact h
      · omega
    have hml : ((s.take j).drop f).length ≤ s.length := by rw [List.length_drop, List.length_take]; omega
    refine zrunc ?_ ?_
    refine cw_cut (fun b : Bool => [(0, strV s), (1, .int .u8 c.toNat), (5, v), (6, .int .i64 (f : Nat)), (7, .int .i64 (j : Nat)), (24, .bool b)]) (fun b H' => H1 = H' ∧ ((b = true ∧ PartI c s (j + 1) (j + 1) (l ++ [(s.take j).drop f])) ∨ (b = false ∧ PartI c s (j + 1) f l))) ?_ ?_
    · refine zrun ?_ ?_
      refine x_len_str rfl rfl rfl trivial ?_
      rw [hsz]
      refine zrun ?_ ?_
      by_cases he : j = s.length
      · rw [show ((j : Int) == (s.length : Int)) = true by simp [he]]
        refine zrun ?_ ?_
        exact nw_meet true (by repeat (first | exact True.intro | refine ⟨rfl, ?_⟩)) ⟨rfl, .inl ⟨rfl, by subst he; exact hI.last⟩⟩
      · rw [show ((j : Int) == (s.length : Int)) = false by simp; omega]
        obtain ⟨x, hx⟩ := getp (l := s) (j := j) (by omega)
        refine zrun ?_ ?_
        refine x_index_str (c := x) rfl rfl rfl (by omega) (by rw [List.getElem?_toArray]; exact hx) rfl trivial ?_
        refine zrun ?_ ?_
        by_cases hc : x = c
        · subst hc
          rw [show (((x.toNat : Nat) : Int) == ((x.toNat : Nat) : Int)) = true by simp]
          exact nw_meet true (by repeat (first | exact True.intro | refine ⟨rfl, ?_⟩)) ⟨rfl, .inl ⟨rfl, hI.cut hx⟩⟩
        · rw [show (((x.toNat : Nat) : Int) == ((c.toNat : Nat) : Int)) = false by simp; exact fun h => hc (UInt8.toNat_inj.1 (by omega))]
          exact nw_meet false (by repeat (first | exact True.intro | refine ⟨rfl, ?_⟩)) ⟨rfl, .inr ⟨rfl, hI.pass hx hc⟩⟩
    rintro b _ ⟨rfl, hb⟩
    rcases hb with ⟨rfl, hI'⟩ | ⟨rfl, hI'⟩
    · refine zrun ?_ ?_
      refine x_strL_lh rfl rfl rfl rfl hfj (by omega) rfl trivial ?_
      refine zrun ?_ ?_
      refine x_buildSlice (vs := svs [(s.take j).drop f]) rfl rfl rfl rfl (by omega) (svs_oneC _) rfl trivial ?_
      intro H2 hn2
      refine ⟨trivial, ?_⟩
      have hO2 := hO.keep hn2.keep (fun _ h => h)
      have hk2 := hn2.old hk1
      refine zrun ?_ ?_
      refine x_append (v := v) (by rfl) (by rfl) (by rfl) rfl rfl rfl hO2 (isSl_some (Nat.le_refl _) (by omega)) (m := 1) (cx := svs [(s.take j).drop f]) rfl (hn2.blk.cels 0 1 (by simp [svs])) (svs_oneC _) (by omega) rfl trivial ?_
      intro v' H3 hap
      refine ⟨trivial, ?_⟩
      have hk3 := hap.old hf hk2
      have hf3 := hap.fresh hf hk2.size
      have hO3 := hap.own
      rw [show svs l ++ svs [(s.take j).drop f] = svs (l ++ [(s.take j).drop f]) by simp [svs]] at hO3
      refine zrun ?_ ?_
      exact nw_round (j + 1, j + 1, l ++ [(s.take j).drop f], v') (by repeat (first | exact True.intro | refine ⟨rfl, ?_⟩)) ⟨by show j + 1 ≤ _; omega, by show (l ++ [(s.take j).drop f]).length ≤ j + 1; rw [List.length_append]; simp; omega, hk3, hI', by show Own 1 H3 v' (l ++ [(s.take j).drop f]).length _; rw [List.length_append]; exact hO3, hf3⟩ (by show s.length + 1 - (j + 1) < s.length + 1 - j; omega)
    · refine zrun ?_ ?_
      exact nw_round (j + 1, f, l, v) (by repeat (first | exact True.intro | refine ⟨rfl, ?_⟩)) ⟨by show j + 1 ≤ _; omega, by show l.length ≤ j + 1; omega, hk1, hI', hO, hf⟩ (by show s.length + 1 - (j + 1) < s.length + 1 - j; omega)
  · have he : partsC c s = l := by
      rcases hI with ⟨h, _, _, _⟩ | ⟨_, h⟩
      · omega
      · exact h
    refine zrun ?_ ?_
    refine cw_ret1 rfl rfl ⟨hk1, ?_, hf⟩
    rw [he]
    exact hO
end Go.Proofs.YtbcflfkajkmkdaaDoor.X
