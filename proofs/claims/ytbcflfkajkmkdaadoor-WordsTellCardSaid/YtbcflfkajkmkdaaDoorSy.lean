/- Chapter 24, the program: how an operation's line is said: its parts. -/
import Derived.Test.YtbcflfkajkmkdaaDoorLb
namespace Go.Proofs.YtbcflfkajkmkdaaDoor.X
open Go Go.Proofs Go.RowKit Go.Sort
set_option linter.unusedVariables false
set_option linter.unusedSimpArgs false
set_option maxRecDepth 10000
set_option maxHeartbeats 4000000

section
variable {P : Program} {n : Nat} {B : Exit → Act → World → Prop} {w0 : World} {md : Md} {ops : List Oper} {rest : OT} {k : K} {σ : Sl} {H : Heap} {i : Nat}
variable {d : Nat} {ty : TypeId} {pos : String} {after : Array Edge} {g : Option (Nat × Bool)}
/-- a cell of a fixed row -/
theorem x_indexAddrB {t e m b o bb : Nat} {z : Value} {x y : Operand} {ki : IntKind} {j : Int} [hT : Ty P t (.array m e)] [hI : Inf P e 1 bb z] (hg : gd ops σ g = some true) (hx : evo σ x = some (ptr b o)) (hy : evo σ y = some (.int ki j)) (h0 : 0 ≤ j) (h1 : j < m) (hd : Nat.blt d n = true) (hk : okq ops md i ⟨some d, .indexAddr t x y, ty, pos, after, g⟩ H)
    (h : XW P n B w0 md ops rest k ((d, ptr b (o + j.toNat)) :: σ) H) : XW P n B w0 md ops (.op i ⟨some d, .indexAddr t x y, ty, pos, after, g⟩ rest) k σ H :=
  x_pure hk hg rfl hd (fun a w hM ha => by
    simp [execOp, Instr.indexAt, ha.evo hx, ha.evo hy, asIntOf, run_und hT, h0, h1, run_size hI, addr_add, Instr.sureAddr]) h
/-- a slice of a fixed row -/
theorem x_slicep_h {t e m b bb : Nat} {z : Value} {x hi : Operand} {ki : IntKind} {j : Int} [hT : Ty P t (.array m e)] [hI : Inf P e 1 bb z] (hg : gd ops σ g = some true) (hx : evo σ x = some (ptr b 0)) (hy : evo σ hi = some (.int ki j)) (h0 : 0 ≤ j) (h1 : j ≤ m) (hd : Nat.blt d n = true) (hk : okq ops md i ⟨some d, .slice t x none (some hi) none, ty, pos, after, g⟩ H)
    (h : XW P n B w0 md ops rest k ((d, .slice (some ⟨b, 0, none⟩) j.toNat m) :: σ) H) : XW P n B w0 md ops (.op i ⟨some d, .slice t x none (some hi) none, ty, pos, after, g⟩ rest) k σ H :=
  x_pure hk hg rfl hd (fun a w hM ha => by
    have e1 : P.arrayLen t = m := by simp [Program.arrayLen, hT.und]
    have e2 : P.elem t = e := by simp [Program.elem, hT.und]
    have := run_sliceAt_array_h (P := P) w t ⟨b, 0, none⟩ (by rw [e1, e2]; exact hT.und) ki j h0 (by rw [e1]; exact h1)
    rw [e1, e2, run_size hI] at this
    have e3 : slicedAt ⟨b, 0, none⟩ 0 j.toNat m 1 = .slice (some ⟨b, 0, none⟩) j.toNat m := by simp [slicedAt, addr_add]
    rw [Result.andThen_ok, e3] at this
    simp [execOp, ha.evo hx, ha.evo hy, this]) h
theorem x_slicep {t e m b bb : Nat} {z : Value} {x : Operand} [hT : Ty P t (.array m e)] [hI : Inf P e 1 bb z] (hg : gd ops σ g = some true) (hx : evo σ x = some (ptr b 0)) (hd : Nat.blt d n = true) (hk : okq ops md i ⟨some d, .slice t x none none none, ty, pos, after, g⟩ H)
    (h : XW P n B w0 md ops rest k ((d, .slice (some ⟨b, 0, none⟩) m m) :: σ) H) : XW P n B w0 md ops (.op i ⟨some d, .slice t x none none none, ty, pos, after, g⟩ rest) k σ H :=
  x_pure hk hg rfl hd (fun a w hM ha => by
    have e3 : (Instr.sliceAt t (.pointer (some ⟨b, 0, none⟩)) none none none).run P w = .ok (.slice (some ⟨b, 0, none⟩) m m) w := by
      simp [Instr.sliceAt, Instr.sureAddr, run_und hT, Instr.sliceBounds, Instr.sliceBound, run_size hI, addr_add]
    simp [execOp, ha.evo hx, e3]) h
end
instance tyA24 : Ty Tryd.prog 84 (.array 24 5) := ⟨by kernel_rfl⟩
instance tyA23 : Ty Tryd.prog 54 (.array 23 9) := ⟨by kernel_rfl⟩

theorem dec_le {v : Int} (h : U64 v) : (dec v).length ≤ 20 := by
  unfold dec
  rw [Lib.decDigits_length]
  exact Lib.nDigits_le20 _ (by have := h.1; have := h.2; omega)
theorem hexB_length (l : Bytes) : (hexB l).length = 2 * l.length := by
  induction l with
  | nil => rfl
  | cons x l ih => rw [hexB_cons, List.length_cons, List.length_cons, ih, List.length_cons]; omega

theorem law_formatBase10 {b k u : Nat} {l : List Value} {H : Heap} (hB : Blk H b l) (hl : l = List.replicate 24 (.int .u8 0)) (hk : k ≤ 24) (hu : u < 10 ^ k) (hu64 : u < 18446744073709551616) (hkk : Lib.nDigits u = k) :
    Ret Tryd.prog 53 [.slice (some ⟨b, 0, none⟩) k 24, .int .u64 u] H (fun v H' => v = .tuple #[] ∧ Keep (· = b) H H' ∧ Bs H' (.slice (some ⟨b, 0, none⟩) k 24) (Lib.decDigits u)) := ret_mk fun w hw => by
  subst hw hl
  have hH : Holds (fun (b : UInt8) => Value.int .u8 (b.toNat : Int)) w b 0 (Array.replicate k 0) := fun j hj => by
    rw [Array.size_replicate] at hj
    have e1 : (Array.replicate k (0 : UInt8))[j]! = 0 := by simp [hj]
    refine ⟨?_, ?_⟩
    · rw [cell_heap, hB.cel, e1, Nat.zero_add, List.getElem?_replicate, if_pos (by omega)]
      rfl
    · rw [frozen_heap]
      obtain ⟨T, fz, h1, h2⟩ := hB
      unfold frz
      rw [h1]
      have := h2 (0 + j) (by simp; omega)
      simp only [Bool.and_eq_false_iff, decide_eq_false_iff_not]
      omega
  have hc := Tryd.internal_strconv_formatBase10 b 0 24 u (Array.replicate k 0) w hH (by rw [Array.size_replicate]; exact hu) hu64 (by rw [Array.size_replicate]; omega)
  rw [Array.size_replicate] at hc
  refine hc.mono ?_
  rintro e w' ⟨rfl, q, v', dk, rfl, hF⟩
  obtain ⟨h1, h2, h3, h4⟩ := drewN_facts q (putRow (fun (b : UInt8) => Value.int .u8 (b.toNat : Int)) w b 0 dk)
  have hds : dk.size = k := hF.size
  refine ⟨_, rfl, ⟨rfl, h2, h3, h4⟩, rfl, ?_, ?_⟩
  · rw [h1]
    exact keep_modify _ _ _
  · rw [h1]
    have hlen : (Lib.decDigits u).length = k := by rw [Lib.decDigits_length, hkk]
    refine ⟨by rw [hlen]; exact isSl_some hk (by omega), fun j hj => ?_⟩
    rw [bvs_length, hlen] at hj
    have e2 := cell?_putRow (fun (b : UInt8) => Value.int .u8 (b.toNat : Int)) w b 0 (Array.replicate k 0) dk hH (by rw [hds, Array.size_replicate]) j (by omega)
    rw [cell_heap] at e2
    have e3 : cel (putRow (fun (b : UInt8) => Value.int .u8 (b.toNat : Int)) w b 0 dk).heap b (0 + j) = some (Value.int .u8 (dk[j]!.toNat : Int)) := e2
    show cel _ b (0 + j) = _
    rw [e3]
    simp only [bvs, List.getElem_map]
    subst hkk
    have := Lib.row_is_numeral hF j (by omega)
    rw [this]
theorem law_FormatUintI {v : Int} {H : Heap} (hv : U64 v) (hL : Laid24 H) : Ret Tryd.prog 41 [.int .u64 v, .int .i64 10] H (fun r H' => Keep Non H H' ∧ r = strV (dec v)) := by
  obtain ⟨h0, h1⟩ := hv
  obtain ⟨u, rfl⟩ := Int.eq_ofNat_of_zero_le h0
  have hdec : dec (u : Int) = Lib.decDigits u := rfl
  rw [hdec]
  refine ret_of Tryd.func41 rfl rfl rfl rfl ?_
  intro w0
  refine zrun ?_ ?_
  refine cw_cond rfl (fun h2 => ?_) (fun h2 => ?_) <;> (try simp at h2)
  · refine zrun ?_ ?_
    refine x_conv_int rfl rfl rfl trivial ?_
    rw [wrap_i64 (by omega) (by omega)]
    refine zrun ?_ ?_
    refine x_call rfl rfl rfl trivial (law_small u (by omega) H) ?_
    rintro _ _ ⟨rfl, rfl⟩
    refine ⟨trivial, ?_⟩
    refine zrun ?_ ?_
    exact cw_ret1 rfl rfl ⟨Keep.refl _ _, rfl⟩
  · have hnd := Lib.nDigits_le20 u (by omega)
    have hnp := Lib.nDigits_pos u
    refine zrun ?_ ?_
    refine x_alloc rfl rfl trivial ?_
    intro H1 hn1
    refine ⟨trivial, ?_⟩
    have hL1 := hL.keepN hn1.keep
    refine zrun ?_ ?_
    refine x_call rfl rfl rfl trivial (law_numDigits (u := u) (by omega) (by omega) hL1) ?_
    rintro _ _ ⟨rfl, rfl⟩
    refine ⟨trivial, ?_⟩
    refine zrun ?_ ?_
    refine x_slicep_h rfl rfl rfl (by omega) (by omega) rfl trivial ?_
    rw [Int.toNat_natCast]
    refine zrun ?_ ?_
    refine x_call rfl rfl rfl trivial (law_formatBase10 hn1.blk rfl (by omega) (Lib.lt_pow_nDigits u) (by omega) rfl) ?_
    rintro _ H2 ⟨rfl, hk2, hb2⟩
    refine ⟨trivial, ?_⟩
    refine zrun ?_ ?_
    refine x_slicep_h rfl rfl rfl (by omega) (by omega) rfl trivial ?_
    rw [Int.toNat_natCast]
    refine zrun ?_ ?_
    refine x_tostr rfl rfl (hpmt hb2) rfl trivial ?_
    refine zrun ?_ ?_
    exact cw_ret1 rfl rfl ⟨keep_at hn1.keep hk2 (Nat.le_refl _), rfl⟩
theorem law_FormatUint {v : Int} {H : Heap} (hv : U64 v) (hL : Laid24 H) : Ret Tryd.prog 22 [.int .u64 v, .int .i64 10] H (fun r H' => Keep Non H H' ∧ r = strV (dec v)) := by
  refine ret_of Tryd.func22 rfl rfl rfl rfl ?_
  intro w0
  refine zrun ?_ ?_
  refine x_call rfl rfl rfl trivial (law_FormatUintI hv hL) ?_
  rintro _ H1 ⟨hk, rfl⟩
  refine ⟨trivial, ?_⟩
  refine zrun ?_ ?_
  exact cw_ret1 rfl rfl ⟨hk, rfl⟩
end Go.Proofs.YtbcflfkajkmkdaaDoor.X
