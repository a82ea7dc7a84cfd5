/- Chapter 24, the program: what a line's parts are read as. -/
import Derived.Test.YtbcflfkajkmkdaaDoorSy3
import Derived.WideLaws
namespace Go.Proofs.YtbcflfkajkmkdaaDoor.X
open Go Go.Proofs Go.RowKit
set_option linter.unusedVariables false
set_option linter.unusedSimpArgs false
set_option maxRecDepth 10000
set_option maxHeartbeats 4000000

section
variable {P : Program} {n : Nat} {B : Exit → Act → World → Prop} {w0 : World} {md : Md} {ops : List Oper} {rest : OT} {k : K} {σ : Sl} {H : Heap} {i : Nat}
variable {d : Nat} {ty : TypeId} {pos : String} {after : Array Edge} {g : Option (Nat × Bool)}
class Ifc (P : Program) (t : Nat) : Prop where
  ifc : P.underlying t = some (.interface (P.methodsAt t))
theorem x_ifnil {t t' : Nat} {x : Operand} [hT : Ifc P t] (hg : gd ops σ g = some true) (hx : evo σ x = some .nilIface) (hd : Nat.blt d n = true) (hk : okq ops md i ⟨some d, .binOp .neq t x (.const .nilIface) t', ty, pos, after, g⟩ H)
    (h : XW P n B w0 md ops rest k ((d, .bool false) :: σ) H) : XW P n B w0 md ops (.op i ⟨some d, .binOp .neq t x (.const .nilIface) t', ty, pos, after, g⟩ rest) k σ H :=
  x_pure hk hg rfl hd (fun A w hM ha => by
    have e1 : (eqGuard .neq t x (.const .nilIface) .nilIface .nilIface).run P w = .ok () w := by cases x <;> simp [eqGuard]
    have e2 : A.eval (.const .nilIface) = .nilIface := rfl
    simp [execOp, ha.evo hx, e2, e1, binOp, run_equal_nil_nil w t hT.ifc]) h
theorem x_ifsome {t t' u : Nat} {x : Operand} {v : Value} [hT : Ifc P t] (hg : gd ops σ g = some true) (hx : evo σ x = some (.iface u v)) (hd : Nat.blt d n = true) (hk : okq ops md i ⟨some d, .binOp .neq t x (.const .nilIface) t', ty, pos, after, g⟩ H)
    (h : XW P n B w0 md ops rest k ((d, .bool true) :: σ) H) : XW P n B w0 md ops (.op i ⟨some d, .binOp .neq t x (.const .nilIface) t', ty, pos, after, g⟩ rest) k σ H :=
  x_pure hk hg rfl hd (fun A w hM ha => by
    have e1 : (eqGuard .neq t x (.const .nilIface) (.iface u v) .nilIface).run P w = .ok () w := by simp [eqGuard]
    have e2 : A.eval (.const .nilIface) = .nilIface := rfl
    simp [execOp, ha.evo hx, e2, e1, binOp, run_equal_held_nil w t u v hT.ifc]) h
end
instance ifcE : Ifc Tryd.prog 51 := ⟨by kernel_rfl⟩

theorem strV_list (s : Bytes) : (⟨s.toArray⟩ : ByteArray).data.toList = s := rfl
theorem law_number {s : Bytes} {H : Heap} (hs : s.length ≤ 281474976710656) (hL : Laid24 H) : Ret Tryd.prog 44 [strV s] H (fun r H' => Keep Non H H' ∧ r = .int .i64 (numW s)) := by
  refine ret_of Tryd.func44 rfl rfl rfl rfl ?_
  intro w0
  refine zrun ?_ ?_
  refine x_call rfl rfl rfl trivial (law_Atoi (s := ⟨s.toArray⟩) (by rw [strV_size]; exact hs) hL) ?_
  rintro _ H1 ⟨hk, hv⟩
  refine ⟨trivial, ?_⟩
  have en : numW s = endI (Lib.atoiAll s) := rfl
  rcases hv with ⟨m, h1, rfl⟩ | ⟨h1, m, T, a, rfl⟩
  · rcases hx : Lib.atoiAll s with v | _ | _
    · rw [strV_list, hx] at h1
      cases h1
      refine zrun ?_ ?_
      refine x_ifnil rfl rfl rfl trivial ?_
      refine zrun ?_ ?_
      exact cw_ret1 rfl rfl ⟨hk, by rw [en, hx]; rfl⟩
    · rw [strV_list, hx] at h1; cases h1
    · rw [strV_list, hx] at h1; cases h1
  · refine zrun ?_ ?_
    refine x_ifsome rfl rfl rfl trivial ?_
    refine zrun ?_ ?_
    refine cw_ret1 rfl rfl ⟨hk, ?_⟩
    rcases hx : Lib.atoiAll s with v | _ | _
    · rw [strV_list, hx] at h1; cases h1
    · rw [en, hx]; rfl
    · rw [en, hx]; rfl
theorem law_greatW {s : Bytes} {H : Heap} (hs : s.length ≤ 281474976710656) (hL : Laid24 H) : Ret Tryd.prog 46 [strV s] H (fun r H' => Keep Non H H' ∧ r = .int .u64 (greatW s)) := by
  refine ret_of Tryd.func46 rfl rfl rfl rfl ?_
  intro w0
  refine zrun ?_ ?_
  refine x_call rfl rfl rfl trivial (law_ParseUint (s := ⟨s.toArray⟩) (by rw [strV_size]; exact hs) hL) ?_
  rintro _ H1 ⟨hk, hv⟩
  refine ⟨trivial, ?_⟩
  have en : greatW s = endN (Lib.parseUintB 64 s) := rfl
  rcases hv with ⟨m, h1, rfl⟩ | ⟨h1, m, T, a, rfl⟩
  · rcases hx : Lib.parseUintB 64 s with v | _ | _
    · rw [strV_list, hx] at h1
      cases h1
      refine zrun ?_ ?_
      refine x_ifnil rfl rfl rfl trivial ?_
      refine zrun ?_ ?_
      exact cw_ret1 rfl rfl ⟨hk, by rw [en, hx]; rfl⟩
    · rw [strV_list, hx] at h1; cases h1
    · rw [strV_list, hx] at h1; cases h1
  · refine zrun ?_ ?_
    refine x_ifsome rfl rfl rfl trivial ?_
    refine zrun ?_ ?_
    refine cw_ret1 rfl rfl ⟨hk, ?_⟩
    rcases hx : Lib.parseUintB 64 s with v | _ | _
    · rw [strV_list, hx] at h1; cases h1
    · rw [en, hx]; rfl
    · rw [en, hx]; rfl

theorem hexAt_le : ∀ c : Fin 256, -1 ≤ Lib.indexByte hexTab (UInt8.ofNat c.val) ∧ Lib.indexByte hexTab (UInt8.ofNat c.val) ≤ 15 := by decide +kernel
theorem hexAt_bd (c : UInt8) : -1 ≤ Lib.indexByte hexTab c ∧ Lib.indexByte hexTab c ≤ 15 := by
  have h := hexAt_le ⟨c.toNat, c.toNat_lt⟩
  simpa using h
theorem shl4 : ∀ a : Fin 16, IntKind.i64.wrap ((a.val : Int) * 2 ^ (min ((4 : Int)).toNat IntKind.i64.bits)) = ((a.val * 16 : Nat) : Int) := by decide +kernel
theorem or64 : ∀ a b : Fin 16, IntKind.i64.wrap (BitVec.ofInt IntKind.i64.bits ((a.val * 16 : Nat) : Int) ||| BitVec.ofInt IntKind.i64.bits (b.val : Int)).toNat = ((a.val * 16 ||| b.val : Nat) : Int) := by decide +kernel
theorem wr8 : ∀ a b : Fin 16, IntKind.u8.wrap ((a.val * 16 ||| b.val : Nat) : Int) = (((UInt8.ofNat (a.val * 16 ||| b.val)).toNat : Nat) : Int) := by decide +kernel
theorem heard_take (s : Bytes) : ∀ (j : Nat) (a b : UInt8), s[2 * j]? = some a → s[2 * j + 1]? = some b → heardW (s.take (2 * (j + 1))) = heardW (s.take (2 * j)) ++ [UInt8.ofNat (hexAt a * 16 ||| hexAt b)] := by
  intro j
  induction j generalizing s with
  | zero =>
    intro a b ha hb
    match s, ha, hb with
    | x :: y :: r, ha, hb =>
      simp at ha hb
      subst ha hb
      simp [heardW]
  | succ j ih =>
    intro a b ha hb
    match s, ha, hb with
    | x :: y :: r, ha, hb =>
      have ha' : r[2 * j]? = some a := by rw [← ha]; simp [show 2 * (j + 1) = 2 * j + 1 + 1 by omega]
      have hb' : r[2 * j + 1]? = some b := by rw [← hb]; simp [show 2 * (j + 1) + 1 = 2 * j + 1 + 1 + 1 by omega]
      have := ih r a b ha' hb'
      have e1 : (x :: y :: r).take (2 * (j + 1 + 1)) = x :: y :: r.take (2 * (j + 1)) := by
        rw [show 2 * (j + 1 + 1) = 2 * (j + 1) + 1 + 1 by omega]
        rfl
      have e2 : (x :: y :: r).take (2 * (j + 1)) = x :: y :: r.take (2 * j) := by
        rw [show 2 * (j + 1) = 2 * j + 1 + 1 by omega]
        rfl
      rw [e1, e2]
      simp [heardW, this]
    | [x], ha, hb => simp at ha
    | [], ha, hb => simp at ha
theorem heard_odd (s : Bytes) : heardW s = heardW (s.take (2 * (s.length / 2))) := by
  match s with
  | [] => rfl
  | [x] => simp [heardW]
  | x :: y :: r =>
    have e : (x :: y :: r).take (2 * ((x :: y :: r).length / 2)) = x :: y :: r.take (2 * (r.length / 2)) := by
      have : (x :: y :: r).length / 2 = r.length / 2 + 1 := by simp; omega
      rw [this, show 2 * (r.length / 2 + 1) = 2 * (r.length / 2) + 1 + 1 by omega]
      rfl
    rw [e]
    simp only [heardW]
    rw [← heard_odd r]
theorem heard_length (s : Bytes) : (heardW s).length ≤ s.length := by
  match s with
  | [] => simp [heardW]
  | [x] => simp [heardW]
  | x :: y :: r =>
    have := heard_length r
    simp [heardW]
    omega
theorem law_heard {s : Bytes} {H : Heap} (hs : s.length ≤ 1000000) : Ret Tryd.prog 45 [strV s] H (fun r H' => Keep Non H H' ∧ Own 1 H' r (heardW s).length (bvs (heardW s)) ∧ Fresh H r) := by
  have hsz := strV_size s
  refine ret_of Tryd.func45 rfl rfl rfl rfl ?_
  intro w0
  refine zrun ?_ ?_
  refine cw_loop (fun t : Nat × Value => [(0, strV s), (3, t.2), (4, .int .i64 (2 * t.1 : Nat))]) (fun t H' => 2 * t.1 ≤ s.length ∧ Keep Non H H' ∧ Own 1 H' t.2 t.1 (bvs (heardW (s.take (2 * t.1)))) ∧ Fresh H t.2) (fun t => s.length - 2 * t.1) (0, .slice none 0 0) (by repeat (first | exact True.intro | refine ⟨rfl, ?_⟩)) ⟨Nat.zero_le _, Keep.refl _ _, Own.nil _ _, Fresh.nil _⟩ ?_
  rintro ⟨j, v⟩ H1 ⟨hj, hk1, hO, hf⟩
  simp only at hj hO hf
  dsimp only
  refine zrun ?_ ?_
  refine x_len_str rfl rfl rfl trivial ?_
  rw [hsz]
  refine zrun ?_ ?_
  refine cw_cond rfl (fun h1 => ?_) (fun h1 => ?_) <;> (try simp at h1)
  · have hj2 : 2 * j + 1 < s.length := by omega
    obtain ⟨a, ha⟩ : ∃ a, s[2 * j]? = some a := ⟨_, List.getElem?_eq_getElem (by omega)⟩
    obtain ⟨b, hb⟩ : ∃ b, s[2 * j + 1]? = some b := ⟨_, List.getElem?_eq_getElem (by omega)⟩
    have ba := hexAt_bd a
    have bb := hexAt_bd b
    refine zrun ?_ ?_
    refine cw_held (fun _ => Keep Non H1) ⟨[3, 8], []⟩ (.op 0 (.op 1 (.op 2 (.op 4 (.op 5 (.op 6 (.op 7 (.op 3 (.op 8 (.op 9 (.op 10 (.nil)))))))))))) panicOk_body mixed (by kernel_rfl) ?_
    refine zhrun ?_ ?_
    refine x_index_str (c := a) rfl rfl rfl (by omega) (by rw [List.getElem?_toArray]; exact ha) rfl (okq_reg rfl rfl) ?_
    refine zhrun ?_ ?_
    refine x_index_str (c := b) rfl rfl rfl (by omega) (by rw [List.getElem?_toArray]; exact hb) rfl (okq_reg rfl rfl) ?_
    refine zhrun ?_ ?_
    refine x_call rfl rfl rfl ⟨rfl, rfl⟩ (law_IndexByte hexS a _) ?_
    rintro _ _ ⟨rfl, rfl⟩
    refine ⟨okm_nil rfl, ?_⟩
    refine zhrun ?_ ?_
    refine x_call rfl rfl rfl ⟨rfl, rfl⟩ (law_IndexByte hexS b _) ?_
    rintro _ _ ⟨rfl, rfl⟩
    refine ⟨okm_nil rfl, ?_⟩
    refine zhrun ?_ ?_
    refine zrun ?_ ?_
    have ea : max (Lib.indexByte hexTab a) 0 = ((hexAt a : Nat) : Int) := by unfold hexAt; omega
    have eb : max (Lib.indexByte hexTab b) 0 = ((hexAt b : Nat) : Int) := by unfold hexAt; omega
    have la : hexAt a < 16 := by omega
    have lb : hexAt b < 16 := by omega
    refine x_max rfl rfl rfl rfl trivial ?_
    rw [show max (Lib.indexByte hexS.data.toList a) 0 = ((hexAt a : Nat) : Int) from ea]
    refine zrun ?_ ?_
    refine x_shl rfl rfl rfl (by omega) rfl trivial ?_
    rw [shl4 ⟨hexAt a, la⟩]
    refine zrun ?_ ?_
    refine x_max rfl rfl rfl rfl trivial ?_
    rw [show max (Lib.indexByte hexS.data.toList b) 0 = ((hexAt b : Nat) : Int) from eb]
    refine zrun ?_ ?_
    rw [or64 ⟨hexAt a, la⟩ ⟨hexAt b, lb⟩]
    refine x_conv_int rfl rfl rfl trivial ?_
    rw [wr8 ⟨hexAt a, la⟩ ⟨hexAt b, lb⟩]
    refine zrun ?_ ?_
    refine x_buildSlice (vs := bvs [UInt8.ofNat (hexAt a * 16 ||| hexAt b)]) rfl rfl rfl rfl (by omega) (bvs_oneC _) rfl trivial ?_
    intro H2 hn2
    refine ⟨trivial, ?_⟩
    have hO2 := hO.keep hn2.keep (fun _ h => h)
    have hk2 := hn2.old hk1
    refine zrun ?_ ?_
    refine x_append (v := v) (by rfl) (by rfl) (by rfl) rfl rfl rfl hO2 (isSl_some (Nat.le_refl _) (by omega)) (m := 1) (cx := bvs [UInt8.ofNat (hexAt a * 16 ||| hexAt b)]) rfl (hn2.blk.cels 0 1 (by simp [bvs])) (bvs_oneC _) (by omega) rfl trivial ?_
    intro v' H3 hap
    refine ⟨trivial, ?_⟩
    have hk3 := hap.old hf hk2
    have hf3 := hap.fresh hf hk2.size
    refine zrun ?_ ?_
    refine nw_round (j + 1, v') (by repeat (first | exact True.intro | refine ⟨rfl, ?_⟩)) ⟨by show 2 * (j + 1) ≤ _; omega, hk3, ?_, hf3⟩ (by show s.length - 2 * (j + 1) < s.length - 2 * j; omega)
    show Own 1 H3 v' (j + 1) (bvs (heardW (s.take (2 * (j + 1)))))
    rw [heard_take s j a b ha hb, bvs_append]
    exact hap.own
  · have hj2 : 2 * j = 2 * (s.length / 2) := by omega
    rw [hj2, ← heard_odd] at hO
    have hlen : (heardW s).length = j := by
      have := hO.len
      rw [bvs_length] at this
      omega
    refine zrun ?_ ?_
    refine cw_ret1 rfl rfl ⟨hk1, ?_, hf⟩
    rw [hlen]
    exact hO
end Go.Proofs.YtbcflfkajkmkdaaDoor.X
