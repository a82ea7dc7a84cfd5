/- Chapter 24, the program: bytes told, a field said. -/
import Derived.Test.YtbcflfkajkmkdaaDoorSy
namespace Go.Proofs.YtbcflfkajkmkdaaDoor.X
open Go Go.Proofs Go.RowKit
set_option linter.unusedVariables false
set_option linter.unusedSimpArgs false
set_option maxRecDepth 10000
set_option maxHeartbeats 4000000

theorem hex_hi : ∀ x : Fin 256, (x.val : Int).fdiv (2 ^ (min ((4 : Int)).toNat IntKind.u8.bits)) = ((x.val / 16 : Nat) : Int) := by decide +kernel
theorem hex_lo : ∀ x : Fin 256, IntKind.u8.wrap (BitVec.ofInt IntKind.u8.bits (x.val : Int) &&& BitVec.ofInt IntKind.u8.bits 15).toNat = ((x.val % 16 : Nat) : Int) := by decide +kernel
def hexS : ByteArray := ⟨hexTab.toArray⟩
theorem hexS_at : ∀ j : Fin 16, hexS.data[j.val]? = some (hexTab.getD j.val 0) := by decide +kernel
theorem hexB_snoc (l : Bytes) (x : UInt8) : hexB (l ++ [x]) = hexB l ++ hx x := by simp [hexB]
theorem law_told {va : Value} {l : Bytes} {H : Heap} (hA : Bs H va l) (hl : l.length ≤ 100000) : Ret Tryd.prog 21 [va] H (fun r H' => Keep Non H H' ∧ r = strV (hexB l)) := by
  have sA := hA.sl
  have cA := sA.cap
  refine ret_of Tryd.func21 rfl rfl rfl rfl ?_
  intro w0
  refine zrun ?_ ?_
  refine cw_loop (fun s : Nat × Value => [(3, s.2), (6, va), (7, .int .i64 l.length), (8, .int .i64 s.1)]) (fun s H' => s.1 ≤ l.length ∧ Keep Non H H' ∧ Own 1 H' s.2 (2 * s.1) (bvs (hexB (l.take s.1))) ∧ Fresh H s.2) (fun s => l.length - s.1) (0, .slice none 0 0) (by repeat (first | exact True.intro | refine ⟨rfl, ?_⟩)) ⟨Nat.zero_le _, Keep.refl _ _, Own.nil _ _, Fresh.nil _⟩ ?_
  rintro ⟨j, v⟩ H1 ⟨hj, hk1, hO, hf⟩
  simp only at hj hO hf
  dsimp only
  refine zrun ?_ ?_
  refine cw_cond rfl (fun h1 => ?_) (fun h1 => ?_) <;> (try simp at h1)
  · have hjl : j < l.length := by omega
    obtain ⟨x, hget⟩ : ∃ x, l[j]? = some x := ⟨_, List.getElem?_eq_getElem hjl⟩
    have hx256 : x.toNat < 256 := x.toNat_lt
    have hA1 := hA.keepN hk1
    have hkr := Keep.refl (fun b => H.size ≤ b) H1
    refine zrun ?_ ?_
    refine x_load rfl rfl (hpmt (hA1.get j x hget)) rfl trivial ?_
    refine zrun ?_ ?_
    refine cw_held (fun _ => Keep (fun b => H.size ≤ b) H1) ⟨[7, 8], []⟩ (.op 0 (.op 1 (.op 2 (.op 3 (.op 4 (.op 5 (.op 6 (.op 7 (.op 8 (.op 9 (.nil))))))))))) panicOk_body mixed (by kernel_rfl) ?_
    refine zhrun ?_ ?_
    refine x_shr rfl rfl rfl (by omega) rfl (okq_reg rfl rfl) ?_
    rw [hex_hi ⟨x.toNat, hx256⟩]
    refine zhrun ?_ ?_
    refine x_index_str (s := hexS) rfl rfl rfl (by omega) (hexS_at ⟨x.toNat / 16, by omega⟩) rfl (okq_reg rfl rfl) ?_
    refine zhrun ?_ ?_
    rw [hex_lo ⟨x.toNat, hx256⟩]
    refine x_index_str (s := hexS) rfl rfl rfl (by omega) (hexS_at ⟨x.toNat % 16, by omega⟩) rfl (okq_reg rfl rfl) ?_
    refine zhrun ?_ ?_
    refine x_buildSlice (vs := bvs (hx x)) rfl rfl rfl rfl (by omega) (bvs_oneC _) rfl ⟨rfl, rfl⟩ ?_
    intro H2 hn2
    refine ⟨okm_keep hn2.keep (fun _ _ h => h.elim), ?_⟩
    have hO2 := hO.keep hn2.keep (fun _ h => h)
    have hk2 := hn2.old hk1
    refine x_append (v := v) (by rfl) (by rfl) (by rfl) rfl rfl rfl hO2 (isSl_some (Nat.le_refl _) (by omega)) (m := 2) (cx := bvs (hx x)) rfl (hn2.blk.cels 0 2 (by simp [hx, bvs])) (bvs_oneC _) (by omega) rfl ⟨rfl, rfl⟩ ?_
    intro v' H3 hap
    have hk3 := hap.old hf hk2
    have hf3 := hap.fresh hf hk2.size
    refine ⟨okm_keep hap.keep (fun b hb e => by have := hf (by have := e.2.1; omega); have := e.1; omega), ?_⟩
    refine zhrun ?_ ?_
    refine zrun ?_ ?_
    refine nw_round (j + 1, v') (by repeat (first | exact True.intro | refine ⟨rfl, ?_⟩)) ⟨hjl, hk3, ?_, hf3⟩ (by show l.length - (j + 1) < l.length - j; omega)
    show Own 1 H3 v' (2 * (j + 1)) (bvs (hexB (l.take (j + 1))))
    rw [List.take_add_one, hget]
    show Own 1 H3 v' (2 * (j + 1)) (bvs (hexB (l.take j ++ [x])))
    rw [hexB_snoc, bvs_append, show 2 * (j + 1) = 2 * j + 2 by omega]
    exact hap.own
  · have hje : j = l.length := by omega
    subst hje
    rw [List.take_length] at hO
    have hb : Bs H1 v (hexB l) := ⟨by rw [hexB_length]; exact hO.sl, hO.cels⟩
    refine zrun ?_ ?_
    refine x_tostr rfl rfl (hpmt hb) rfl trivial ?_
    refine zrun ?_ ?_
    exact cw_ret1 rfl rfl ⟨hk1, rfl⟩
theorem cat_str (a b : Bytes) : ((⟨a.toArray⟩ : ByteArray) ++ ⟨b.toArray⟩ : ByteArray) = ⟨(a ++ b).toArray⟩ := by
  apply ByteArray.ext
  simp
theorem strV_size (a : Bytes) : (⟨a.toArray⟩ : ByteArray).size = a.length := by simp [ByteArray.size]
section
variable {P : Program} {n : Nat} {B : Exit → Act → World → Prop} {w0 : World} {md : Md} {ops : List Oper} {rest : OT} {k : K} {σ : Sl} {H : Heap} {i : Nat}
variable {d : Nat} {ty : TypeId} {pos : String} {after : Array Edge} {g : Option (Nat × Bool)}
theorem x_cat {t t' : Nat} {x y : Operand} {a b : Bytes} (hs : a.length + b.length ≤ 9223372036854775807) (hg : gd ops σ g = some true) (hx : evo σ x = some (strV a)) (hy : evo σ y = some (strV b)) (hd : Nat.blt d n = true) (hk : okq ops md i ⟨some d, .binOp .add t x y t', ty, pos, after, g⟩ H)
    (h : XW P n B w0 md ops rest k ((d, strV (a ++ b)) :: σ) H) : XW P n B w0 md ops (.op i ⟨some d, .binOp .add t x y t', ty, pos, after, g⟩ rest) k σ H :=
  x_concat (by rw [strV_size, strV_size]; exact hs) hg hx hy hd hk (by rw [cat_str]; exact h)
end
/-- what a builder is behind a writing -/
def BdTo (H : Heap) (b : Nat) (u : Value) (l : Bytes) (H' : Heap) : Prop := ∃ u', Bd H' b u' l ∧ Keep (fun z => z = b ∨ u.ownBlock = some z) H H' ∧ (u'.ownBlock = u.ownBlock ∨ ∀ g, u'.ownBlock = some g → H.size ≤ g)
theorem law_WriteS {H : Heap} {b : Nat} {v : Value} {l s : Bytes} (h : Bd H b v l) (hsz : l.length + s.length ≤ 140737488355328) : Ret Tryd.prog 18 [ptr b 0, strV s] H (fun r H' => r = .tuple #[.int .i64 s.length, .nilIface] ∧ BdTo H b v (l ++ s) H') := by
  refine (law_WriteString (s := ⟨s.toArray⟩) h (by rw [strV_size]; exact hsz)).mono fun r H' ⟨h1, v', h2, h3, h4⟩ => ⟨by rw [h1, strV_size], v', ?_, h3, h4⟩
  simpa using h2
theorem law_fieldS {H : Heap} {b : Nat} {u : Value} {l nm v : Bytes} {is : Bool} (h : Bd H b u l) (hsz : l.length + nm.length + v.length ≤ 140737488355000) : Ret Tryd.prog 19 [strV nm, .bool is, strV v, ptr b 0] H (fun r H' => r = .tuple #[] ∧ BdTo H b u (l ++ if is then 32 :: (nm ++ 61 :: v) else []) H') := by
  refine ret_of Tryd.func19 rfl rfl rfl rfl ?_
  intro w0
  refine zrun ?_ ?_
  cases is with
  | false =>
    refine zrun ?_ ?_
    refine nw_end rfl ⟨rfl, u, ?_, Keep.refl _ _, .inl rfl⟩
    simpa using h
  | true =>
    refine zrun ?_ ?_
    refine x_cat (a := [32]) (by simp; omega) rfl rfl rfl rfl trivial ?_
    refine zrun ?_ ?_
    refine x_cat (b := [61]) (by simp; omega) rfl rfl rfl rfl trivial ?_
    refine zrun ?_ ?_
    refine x_cat (by simp; omega) rfl rfl rfl rfl trivial ?_
    refine zrun ?_ ?_
    refine x_call rfl rfl rfl trivial (law_WriteS h (by simp; omega)) ?_
    rintro _ H1 ⟨rfl, hb⟩
    refine ⟨trivial, ?_⟩
    refine zrun ?_ ?_
    refine nw_end rfl ⟨rfl, ?_⟩
    have e : [32] ++ nm ++ [61] ++ v = 32 :: (nm ++ 61 :: v) := by simp
    rw [e] at hb
    exact hb
end Go.Proofs.YtbcflfkajkmkdaaDoor.X
