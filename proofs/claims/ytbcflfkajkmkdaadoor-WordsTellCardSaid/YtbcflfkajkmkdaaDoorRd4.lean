/- Chapter 24, the program: a line is read, whole. -/
import Derived.Test.YtbcflfkajkmkdaaDoorRd3
namespace Go.Proofs.YtbcflfkajkmkdaaDoor.X
open Go Go.Proofs Go.RowKit
set_option linter.unusedVariables false
set_option linter.unusedSimpArgs false
set_option maxRecDepth 10000
set_option maxHeartbeats 8000000

section
variable {P : Program} {n : Nat} {B : Exit → Act → World → Prop} {w0 : World} {md : Md} {ops : List Oper} {rest : OT} {k : K} {σ : Sl} {H : Heap} {i : Nat}
variable {d : Nat} {ty : TypeId} {pos : String} {after : Array Edge} {g : Option (Nat × Bool)}
theorem x_sneL {t t' : Nat} {x y : Operand} {a b : Bytes} (hg : gd ops σ g = some true) (hx : evo σ x = some (strV a)) (hy : evo σ y = some (strV b)) (hd : Nat.blt d n = true) (hk : okq ops md i ⟨some d, .binOp .neq t x y t', ty, pos, after, g⟩ H)
    (h : XW P n B w0 md ops rest k ((d, .bool (!decide (a = b))) :: σ) H) : XW P n B w0 md ops (.op i ⟨some d, .binOp .neq t x y t', ty, pos, after, g⟩ rest) k σ H :=
  x_pure hk hg rfl hd (fun A w hM ha => by
    have e : (a == b) = decide (a = b) := by by_cases h : a = b <;> simp [h]
    simp [execOp, ha.evo hx, ha.evo hy, eqGuard, binOp, Op.stringOp, strV, Lib.toList_data, e]) h
end
/-- what a reader of lines answers -/
def ReadR (H : Heap) (ro : Option Opn) (r : Value) (H' : Heap) : Prop := Keep Non H H' ∧ ∃ b S vk vt vd vp o c, r = .tuple #[.agg (opCells o vk vt vd vp).toArray, .int .i64 c] ∧ OpO H.size S H' b vk vt vd vp o ∧ ((ro = some o ∧ c = 0) ∨ (ro = none ∧ o = {} ∧ c = 6))
abbrev zeroOp : List Value := opCells {} (.slice none 0 0) (.slice none 0 0) (.slice none 0 0) (.slice none 0 0)
theorem OpO.zero (B0 : Nat) (H : Heap) (b : Nat) : OpO B0 (fun _ => False) H b (.slice none 0 0) (.slice none 0 0) (.slice none 0 0) (.slice none 0 0) {} :=
  ⟨Own.nil 1 H, fun h => by simp [sc] at h, Own.nil 1 H, fun h => by simp [sc] at h, Own.nil 1 H, fun h => by simp [sc] at h, ⟨⟨[], Pk.nil _, Own.nil 2 H, fun i j x y hx => by simp at hx⟩, fun h => by simp [sc] at h⟩, fun _ h => h.elim, fun _ h => h, fun _ h => h, fun _ h => h⟩
theorem OpO.opv {B0 : Nat} {S : Nat → Prop} {H : Heap} {b : Nat} {vk vt vd vp : Value} {o : Opn} (h : OpO B0 S H b vk vt vd vp o) : OpV H vk vt vd vp o := ⟨h.key.bs, h.tov.bs, h.data.bs, h.prs.ps⟩
theorem oneC_op {vk vt vd vp : Value} {o : Opn} (h1 : oneC vk = true) (h2 : oneC vt = true) (h3 : oneC vd = true) (h4 : oneC vp = true) : ∀ v ∈ opCells o vk vt vd vp, oneC v = true := by
  intro v hv
  simp only [opCells, List.mem_cons, List.not_mem_nil, or_false] at hv
  rcases hv with rfl | rfl | rfl | rfl | rfl | rfl | rfl | rfl | rfl | rfl | rfl | rfl <;> first | rfl | assumption
theorem OpO.one {B0 : Nat} {S : Nat → Prop} {H : Heap} {b : Nat} {vk vt vd vp : Value} {o : Opn} (h : OpO B0 S H b vk vt vd vp o) : ∀ v ∈ opCells o vk vt vd vp, oneC v = true := oneC_op (isSl_oneC h.key.sl) (isSl_oneC h.tov.sl) (isSl_oneC h.data.sl) (isSl_oneC h.opv.pairs.sl)

theorem law_Read {s : Bytes} {H : Heap} (hs : s.length ≤ 20000) (hL : Laid24 H) : Ret Tryd.prog 10 [strV s] H (ReadR H (readG rdrW s)) := by
  have hsz := strV_size s
  refine ret_of Tryd.func10 rfl rfl rfl rfl ?_
  intro w0
  refine zrun ?_ ?_
  refine x_alloc (zs := zeroOp) rfl rfl trivial ?_
  intro H1 hn1
  refine ⟨trivial, ?_⟩
  refine zrun ?_ ?_
  refine x_build (cs := zeroOp) rfl rfl rfl (by simp) rfl trivial ?_
  refine zrun ?_ ?_
  refine x_alloc (zs := zeroOp) rfl rfl trivial ?_
  intro H2 hn2
  refine ⟨trivial, ?_⟩
  have hs1 := hn1.size
  have hs2 := hn2.size
  refine zrun ?_ ?_
  refine x_stores (cs := zeroOp) rfl rfl rfl rfl (oneC_op rfl rfl rfl rfl) hn2.blk (by simp [opCells]) trivial ?_
  intro H3 hB3 hk3 hs3
  refine ⟨trivial, ?_⟩
  have hB3 : Blk H3 H1.size zeroOp := hB3
  have hk13 : Keep Non H1 H3 := keep_at hn2.keep hk3 (Nat.le_refl _)
  have hk03 := hn1.keep.non_trans hk13
  have hBr := hn1.blk.keep hk13 (fun h => h)
  refine zrun ?_ ?_
  refine x_call rfl rfl rfl trivial (law_Split (s := ⟨s.toArray⟩) (c := 32) (by rw [hsz]; omega) (hL.keepN hk03)) ?_
  rintro _ H4 ⟨rfl, hn4⟩
  refine ⟨trivial, ?_⟩
  rw [strV_list] at hn4 ⊢
  have hs4 := hn4.size
  have hk04 := hk03.non_trans hn4.keep
  have hpl := partsC_length 32 s
  have hpm : ∀ p ∈ partsC 32 s, p.length ≤ s.length := fun p hp => partsC_mem hp
  have hall := oAt_all rdrW s
  have hrg : readG rdrW s = if (foldG rdrW s).kind = 0 ∨ sayO (foldG rdrW s) ≠ s then none else some (foldG rdrW s) := rfl
  have hfok := foldG_ok rdrW_ok s
  have hfk := foldG_kind rdrW s
  generalize hps : partsC 32 s = ps at hn4 hpl hpm hall ⊢
  have hne : ps ≠ [] := by rw [← hps]; exact partsC_ne 32 s
  have hcels : ∀ j p, ps[j]? = some p → cel H4 H3.size (0 + j) = some (strV p) := fun j p hj => by rw [Nat.zero_add, hn4.blk.cel, List.getElem?_map, hj]; rfl
  have sP : IsSl (.slice (some ⟨H3.size, 0, none⟩) ps.length ps.length) ps.length := isSl_some (Nat.le_refl _) (by omega)
  refine zrun ?_ ?_
  refine cw_loop (fun j : Nat => [(0, strV s), (2, ptr H.size 0), (4, ptr H1.size 0), (12, .slice (some ⟨H3.size, 0, none⟩) ps.length ps.length), (13, .int .i64 ps.length), (14, .int .i64 j)]) (fun j H' => j ≤ ps.length ∧ Keep (· = H1.size) H4 H' ∧ ∃ S, OpAt H1.size S H' H1.size (oAt rdrW ps j) ∧ ∀ z, S z → H4.size ≤ z) (fun j => ps.length - j) 0 (by repeat (first | exact True.intro | refine ⟨rfl, ?_⟩)) ⟨Nat.zero_le _, Keep.refl _ _, fun _ => False, ⟨_, _, _, _, hB3.keep hn4.keep (fun h => h), OpO.zero _ _ _⟩, fun _ h => h.elim⟩ ?_
  rintro j H5 ⟨hj, hk5, S, hA, hS⟩
  have hs5 := hk5.size
  have hL5 := (hL.keepN hk04).keepS hk5 (fun z hz => by have := hL.size; omega)
  refine zrun ?_ ?_
  refine cw_cond rfl (fun h1 => ?_) (fun h1 => ?_) <;> (try simp at h1)
  · obtain ⟨p, hp⟩ := getp (l := ps) (j := j) (by omega)
    have hpp := hpm p (List.mem_of_getElem? hp)
    have hcj := hk5.cel (hcels j p hp) (by omega)
    refine zrun ?_ ?_
    refine x_load rfl rfl (hpmt (hcj)) rfl trivial ?_
    refine zrun ?_ ?_
    by_cases hj0 : j = 0
    · subst hj0
      have e0 : (((0 : Nat) : Int) == 0) = true := rfl
      rw [e0]
      obtain ⟨vk, vt, vd, vp, hBo, hO⟩ := hA
      refine zrun ?_ ?_
      refine x_slicep rfl rfl rfl trivial ?_
      refine zrun ?_ ?_
      refine x_call rfl rfl rfl trivial (law_IndexS hL5) ?_
      rintro _ _ ⟨rfl, rfl⟩
      refine ⟨trivial, ?_⟩
      refine zrun ?_ ?_
      refine x_max rfl rfl rfl rfl trivial ?_
      rw [kind_lib]
      refine zrun ?_ ?_
      refine x_store rfl rfl rfl rfl hBo (by simp [opCells]) trivial ?_
      intro H6 hB6 hk6 hs6
      refine ⟨trivial, ?_⟩
      have hT := take_num (o' := oAt rdrW ps 1) hO (Keep.refl _ _) hk6 hB6 (by
        have e1 : ps.headD [] = p := by
          cases ps with
          | nil => cases hp
          | cons q qs => simp at hp; exact hp
        show _ = opCells ((ps.tail.take 0).foldl (stepG rdrW) { kind := kindOf (ps.headD []) }) _ _ _ _
        rw [e1, List.take_zero]
        rfl) rfl rfl rfl rfl
      obtain ⟨S', hA', hS', hk'⟩ := hT
      refine zrun ?_ ?_
      exact nw_round 1 (by repeat (first | exact True.intro | refine ⟨rfl, ?_⟩)) ⟨by omega, hk5.step hk6 (fun z _ e => e), S', hA', fun z hz => (hS' z hz).elim (hS z) (fun h => by omega)⟩ (by omega)
    · have e0 : (((j : Nat) : Int) == 0) = false := by simp; omega
      rw [e0]
      have cl := cut_le 61 p
      refine zrun ?_ ?_
      refine x_call rfl rfl rfl trivial (law_Cut (s := ⟨p.toArray⟩) (c := 61) (by rw [strV_size]; omega) hL5) ?_
      rintro _ _ ⟨rfl, fnd, rfl⟩
      refine ⟨trivial, ?_⟩
      rw [strV_list]
      refine zrun ?_ ?_
      have hbd := oAt_bd rdrW_sz hpm j
      refine x_call rfl rfl rfl trivial (law_take (nm := cutA 61 p) (v := cutB 61 p) (Nat.le_refl _) hA (by omega) (by have := hbd.pairs; omega) hL5) ?_
      rintro _ H6 ⟨rfl, S', hA', hS', hk'⟩
      refine ⟨trivial, ?_⟩
      have hst := oAt_succ (R := rdrW) hp (by omega)
      refine zrun ?_ ?_
      refine nw_round (j + 1) (by repeat (first | exact True.intro | refine ⟨rfl, ?_⟩)) ⟨by omega, ?_, S', by rw [hst]; exact hA', fun z hz => (hS' z hz).elim (hS z) (fun h => by omega)⟩ (by omega)
      exact hk5.step hk' (fun z hz e => e.elim id (fun e => by have := hS z e; omega))
  · obtain rfl : j = ps.length := by omega
    rw [hall] at hA
    have hbd := oAt_bd rdrW_sz hpm ps.length
    rw [hall] at hbd
    obtain ⟨vk, vt, vd, vp, hBo, hO⟩ := hA
    have q0 : cel H5 H1.size 0 = some (.int .i64 (foldG rdrW s).kind) := by rw [hBo.cel]; rfl
    have hk05 := hk04.old hk5 (fun z hz e => by omega)
    have hBr5 := (hBr.keep hn4.keep (fun h => h)).keep hk5 (by omega)
    have hcl : ∀ H', H' = H5 → Cels H' H1.size 0 (opCells (foldG rdrW s) vk vt vd vp) := fun H' e => by
      subst e
      have := hBo.cels 0 12 (by simp [opCells])
      exact this
    have fail : ∀ H6, Keep Non H5 H6 → readG rdrW s = none → ∀ H7, Blk H7 H.size zeroOp → Keep (· = H.size) H6 H7 → ReadR H (readG rdrW s) (.tuple #[.agg zeroOp.toArray, .int .i64 6]) H7 := fun H6 k6 hn H7 hB7 k7 =>
      ⟨((hk05.non_trans k6)).old k7 (fun z hz e => by omega), H.size, _, _, _, _, _, {}, 6, rfl, OpO.zero _ _ _, .inr ⟨hn, rfl, rfl⟩⟩
    refine zrun ?_ ?_
    refine x_load rfl rfl (hpmt (q0)) rfl trivial ?_
    refine zrun ?_ ?_
    by_cases hk0 : (foldG rdrW s).kind = 0
    · have hnone : readG rdrW s = none := by rw [hrg, if_pos (.inl hk0)]
      rw [show ((foldG rdrW s).kind == 0) = true by rw [hk0]; rfl]
      refine zrun ?_ ?_
      refine x_build (cs := zeroOp) rfl rfl rfl (by simp) rfl trivial ?_
      refine zrun ?_ ?_
      refine x_stores (cs := zeroOp) rfl rfl rfl rfl (oneC_op rfl rfl rfl rfl) hBr5 (by simp [opCells]) trivial ?_
      intro H7 hB7 hk7 hs7
      refine ⟨trivial, ?_⟩
      have hB7 : Blk H7 H.size zeroOp := hB7
      refine zrun ?_ ?_
      exact cw_retc2 rfl rfl rfl rfl (hB7.cels 0 12 (by simp [opCells])) (fail H5 (Keep.refl _ _) hnone H7 hB7 hk7)
    · rw [show ((foldG rdrW s).kind == 0) = false by simp [hk0]]
      refine zrun ?_ ?_
      refine x_loads (cs := opCells (foldG rdrW s) vk vt vd vp) rfl rfl rfl hcl rfl trivial ?_
      refine zrun ?_ ?_
      refine x_call rfl rfl rfl trivial (law_Say hO.opv hfok (hbd.sm (by omega) (by omega)) ⟨by omega, by omega⟩ hL5) ?_
      rintro _ H6 ⟨hk6, rfl⟩
      refine ⟨trivial, ?_⟩
      refine zrun ?_ ?_
      refine x_sneL rfl rfl rfl rfl trivial ?_
      by_cases hsame : sayO (foldG rdrW s) = s
      · have hsome : readG rdrW s = some (foldG rdrW s) := by rw [hrg, if_neg (by rintro (h | h); exact hk0 h; exact h hsame)]
        rw [show (!decide (sayO (foldG rdrW s) = s)) = false by simp [hsame]]
        refine zrun ?_ ?_
        have hcl6 : Cels H6 H1.size 0 (opCells (foldG rdrW s) vk vt vd vp) := (hcl H5 rfl).keep hk6 (fun _ h => h)
        refine x_loads (cs := opCells (foldG rdrW s) vk vt vd vp) rfl rfl rfl (hpmt hcl6) rfl trivial ?_
        refine zrun ?_ ?_
        have hBr6 := hBr5.keep hk6 (fun h => h)
        refine x_stores (cs := opCells (foldG rdrW s) vk vt vd vp) rfl rfl rfl rfl hO.one hBr6 (by simp [opCells]) trivial ?_
        intro H7 hB7 hk7 hs7
        refine ⟨trivial, ?_⟩
        have hB7 : Blk H7 H.size (opCells (foldG rdrW s) vk vt vd vp) := hB7
        have hO7 := (hO.keep hk6 (fun _ _ _ _ h => h)).keep hk7 (fun z hz _ _ e => by omega)
        obtain ⟨g1, g2, g3, g4, g5, g6, g7, g8, g9, g10, g11⟩ := hO7
        have lo : ∀ {z}, H1.size ≤ z ∧ z ≠ H1.size → H.size ≤ z ∧ z ≠ H1.size := fun h => ⟨by omega, h.2⟩
        refine zrun ?_ ?_
        exact cw_retc2 rfl rfl rfl rfl (hB7.cels 0 12 (by simp [opCells])) ⟨(hk05.non_trans hk6).old hk7 (fun z hz e => by omega), H1.size, S, vk, vt, vd, vp, foldG rdrW s, 0, rfl, ⟨g1, fun h => lo (g2 h), g3, fun h => lo (g4 h), g5, fun h => lo (g6 h), g7, fun z hz => ⟨by have := (g8 z hz).1; omega, (g8 z hz).2⟩, g9, g10, g11⟩, .inl ⟨hsome, rfl⟩⟩
      · have hnone : readG rdrW s = none := by rw [hrg, if_pos (.inr hsame)]
        rw [show (!decide (sayO (foldG rdrW s) = s)) = true by simp [hsame]]
        refine zrun ?_ ?_
        refine x_build (cs := zeroOp) rfl rfl rfl (by simp) rfl trivial ?_
        refine zrun ?_ ?_
        refine x_stores (cs := zeroOp) rfl rfl rfl rfl (oneC_op rfl rfl rfl rfl) (hBr5.keep hk6 (fun h => h)) (by simp [opCells]) trivial ?_
        intro H7 hB7 hk7 hs7
        refine ⟨trivial, ?_⟩
        have hB7 : Blk H7 H.size zeroOp := hB7
        refine zrun ?_ ?_
        exact cw_retc2 rfl rfl rfl rfl (hB7.cels 0 12 (by simp [opCells])) (fail H6 hk6 hnone H7 hB7 hk7)
end Go.Proofs.YtbcflfkajkmkdaaDoor.X
