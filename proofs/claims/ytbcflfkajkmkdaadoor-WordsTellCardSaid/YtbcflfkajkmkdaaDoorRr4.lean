/- Chapter 24, the document's Read. -/
import Derived.Test.YtbcflfkajkmkdaaDoorRr3
namespace Go.Proofs.YtbcflfkajkmkdaaDoor.X
open Go Go.Proofs Go.RowKit
set_option linter.unusedVariables false
set_option linter.unusedSimpArgs false
set_option maxRecDepth 10000
set_option maxHeartbeats 8000000

theorem rdrR_sz : RdrSz rdrR := ⟨bytR_length, fun v => by
  show (bytR ((partsC 58 v).headD [])).length ≤ _
  have h1 := bytR_length ((partsC 58 v).headD [])
  have h2 := partsC_mem (List.mem_of_getElem? (headD_at (partsC_ne 58 v)))
  omega⟩
theorem cut_at {p : Bytes} {k : Nat} (hno : (61 : UInt8) ∉ p.take k) (hk : k = p.length ∨ p[k]? = some 61) : cutA 61 p = p.take k ∧ cutB 61 p = p.drop (min (k + 1) p.length) := by
  rcases hk with rfl | hk
  · rw [List.take_length] at hno ⊢
    have := cut_free hno
    rw [List.drop_eq_nil_of_le (by omega)]
    exact this
  · have hj := (List.getElem?_eq_some_iff.1 hk).1
    have e : p = p.take k ++ 61 :: p.drop (k + 1) := by
      conv => lhs; rw [← List.take_append_drop k p]
      rw [List.drop_eq_getElem_cons hj]
      rw [List.getElem?_eq_getElem hj] at hk
      injection hk with hk
      rw [hk]
    have ha := cutA_at (r := p.drop (k + 1)) hno
    have hb := cutB_at (r := p.drop (k + 1)) hno
    rw [← e] at ha hb
    rw [show min (k + 1) p.length = k + 1 by omega]
    exact ⟨ha, hb⟩
theorem no_succ {p : Bytes} {k : Nat} {x c : UInt8} (h : c ∉ p.take k) (hx : p[k]? = some x) (hne : x ≠ c) : c ∉ p.take (k + 1) := by
  rw [List.take_add_one, hx, List.mem_append]
  rintro (h' | h')
  · exact h h'
  · simp at h'
    exact hne h'.symm
/-- what is known of the kind that is found among the first k names -/
def KindI (p : Bytes) (k : Nat) (kk : Int) : Prop := (kk = 0 ∧ ∀ i, 1 ≤ i → i < k → names24[i]? ≠ some p) ∨ ∃ m : Nat, kk = m ∧ m < k ∧ names24[m]? = some p
theorem KindI.all {p : Bytes} {kk : Int} (h : KindI p 23 kk) : kk = kindOf p := by
  rcases h with ⟨rfl, h⟩ | ⟨m, rfl, _, h⟩
  · rw [kindOf_none]
    intro k hk e
    have : k < 23 := (List.getElem?_eq_some_iff.1 e).1
    exact h k hk this e
  · rw [kindOf_at h]
/-- what the document's Read yields -/
def ReadRR (H : Heap) (ro : Option Opn) (r : Value) (H' : Heap) : Prop := Keep Non H H' ∧ ∃ vk vt vd vp o c, r = .tuple #[.agg (opCells o vk vt vd vp).toArray, .int .i64 c] ∧ OpV H' vk vt vd vp o ∧ ((ro = some o ∧ c = 0) ∨ (ro = none ∧ o = {} ∧ c = 6))
theorem OpV.one {H : Heap} {vk vt vd vp : Value} {o : Opn} (h : OpV H vk vt vd vp o) : ∀ v ∈ opCells o vk vt vd vp, oneC v = true := oneC_op (isSl_oneC h.key.sl) (isSl_oneC h.tov.sl) (isSl_oneC h.data.sl) (isSl_oneC h.pairs.sl)
theorem law_ReadR {s : Bytes} {H : Heap} (hs : s.length ≤ 20000) : Ret Tryd.prog 13 [strV s] H (ReadRR H (readG rdrR s)) := by
  refine ret_of Tryd.func13 rfl rfl rfl rfl ?_
  intro w0
  refine zrun ?_ ?_
  refine x_alloc (zs := zeroOp) rfl rfl trivial ?_
  intro H1 hn1
  refine ⟨trivial, ?_⟩
  refine zrun ?_ ?_
  refine x_call rfl rfl rfl trivial (law_partsR (s := s) (c := 32) (by omega)) ?_
  rintro r H2 ⟨hk2, hR, hRf⟩
  refine ⟨trivial, ?_⟩
  have hs1 := hn1.size
  have hs2 := hk2.size
  have hk02 := hn1.keep.non_trans hk2
  have hpl := partsC_length 32 s
  have hpm : ∀ p ∈ partsC 32 s, p.length ≤ s.length := fun p hp => partsC_mem hp
  have hall := oAt_all rdrR s
  have hrg : readG rdrR s = if (foldG rdrR s).kind = 0 ∨ sayO (foldG rdrR s) ≠ s then none else some (foldG rdrR s) := rfl
  have hfok := foldG_ok rdrR_ok s
  have hfk := foldG_kind rdrR s
  have hne := partsC_ne 32 s
  have h1A : ∀ kk, kk = kindOf ((partsC 32 s).headD []) → oAt rdrR (partsC 32 s) 1 = { kind := kk } := fun kk h => by rw [h]; rfl
  generalize partsC 32 s = ps at hR hpl hpm hall hne h1A ⊢
  have hps : 0 < ps.length := List.length_pos_iff.2 hne
  have g0 := headD_at hne
  generalize ps.headD [] = p0 at g0 h1A
  have sR := hR.sl
  have rlt : sb r < H2.size := hR.lt (by have := sR.cap.1; omega)
  have rge : H1.size ≤ sb r := hRf (by have := sR.cap.1; omega)
  refine zrun ?_ ?_
  refine x_build (cs := zeroOp) rfl rfl rfl (by simp) rfl trivial ?_
  refine zrun ?_ ?_
  refine x_alloc (zs := zeroOp) rfl rfl trivial ?_
  intro H3 hn3
  refine ⟨trivial, ?_⟩
  have hs3 := hn3.size
  refine zrun ?_ ?_
  refine x_stores (cs := zeroOp) rfl rfl rfl rfl (oneC_op rfl rfl rfl rfl) hn3.blk (by simp [opCells]) trivial ?_
  intro H4 hB4 hk4 hs4
  refine ⟨trivial, ?_⟩
  have hB4 : Blk H4 H2.size zeroOp := hB4
  have hk24 : Keep Non H2 H4 := keep_at hn3.keep hk4 (Nat.le_refl _)
  have hk04 := hk02.non_trans hk24
  have hBr := (hn1.blk.keep hk2 (fun h => h)).keep hk24 (fun h => h)
  have hRc : ∀ i p, ps[i]? = some p → cel H4 (sb r) (so r + i) = some (strV p) := fun i p hp => hk24.cel (svs_cel hR hp) (fun h => h)
  refine zrun ?_ ?_
  refine cw_loop (fun t : Nat × Int => [(0, strV s), (2, ptr H.size 0), (3, .int .i64 0), (4, r), (5, ptr H2.size 0), (6, .int .i64 (t.1 : Nat))]) (fun t H' => 1 ≤ t.1 ∧ t.1 ≤ 23 ∧ KindI p0 t.1 t.2 ∧ Blk H' H2.size (opCells { kind := t.2 } (.slice none 0 0) (.slice none 0 0) (.slice none 0 0) (.slice none 0 0)) ∧ Keep (· = H2.size) H4 H') (fun t => 23 - t.1) (1, 0) (by repeat (first | exact True.intro | refine ⟨rfl, ?_⟩)) ⟨Nat.le_refl _, by show 1 ≤ 23; omega, .inl ⟨rfl, fun i h1 h2 => by simp only at h2; omega⟩, hB4, Keep.refl _ _⟩ ?_
  rintro ⟨k, kk⟩ H5 ⟨hk1, hk23, hKI, hB5, hk5⟩
  simp only at hk1 hk23 hKI hB5
  dsimp only
  have hs5 := hk5.size
  refine zrun ?_ ?_
  refine cw_cond rfl (fun h1 => ?_) (fun h1 => ?_) <;> (try simp at h1)
  · have c0 := hk5.cel (hRc 0 p0 g0) (by omega)
    have hkr := Keep.refl Non H5
    have snm : IsSl (.slice (some ⟨H5.size, 0, none⟩) 23 23) 23 := isSl_some (by omega) (by omega)
    obtain ⟨nm, hnm⟩ : ∃ nm, names24[k]? = some nm := ⟨_, List.getElem?_eq_getElem (by simp [names24]; omega)⟩
    refine zrunc ?_ ?_
    refine cw_cut (fun b : Bool => [(0, strV s), (2, ptr H.size 0), (3, .int .i64 0), (4, r), (5, ptr H2.size 0), (6, .int .i64 (k : Nat)), (23, .bool b)]) (fun b H' => Keep Non H5 H' ∧ b = decide (nm = p0)) ?_ ?_
    · refine cw_held (fun _ => Keep Non H5) ⟨[0, 3], [(6, 0)]⟩ (.op 1 (.op 4 (.op 5 (.op 6 (.op 0 (.op 2 (.op 3 (.op 7 (.nil))))))))) panicOk_body mixed (by kernel_rfl) ?_
      refine zhrun ?_ ?_
      refine x_load rfl rfl (hpmk rfl (fun _ hk => hk.cel c0 (fun h => h))) rfl (okq_load rfl rfl (by assumption)) ?_
      refine zhrun ?_ ?_
      refine x_call rfl rfl rfl ⟨rfl, rfl⟩ (law_wordsR H5) ?_
      rintro _ H6 ⟨hn6, rfl⟩
      refine ⟨okm_keep hn6.keep (fun _ _ h => h), ?_⟩
      have cnm : cel H6 H5.size (0 + k) = some (strV nm) := by rw [Nat.zero_add, hn6.blk.cel, List.getElem?_map, hnm]; rfl
      refine zhrun ?_ ?_
      refine x_load_e rfl rfl cnm rfl ⟨rfl, rfl⟩ ?_
      refine zhrun ?_ ?_
      refine x_seqL rfl rfl rfl rfl (okq_reg rfl rfl) ?_
      refine zhrun ?_ ?_
      exact nw_meet (decide (nm = p0)) (by repeat (first | exact True.intro | refine ⟨rfl, ?_⟩)) ⟨hn6.keep, rfl⟩
    rintro b H6 ⟨hk6, hb⟩
    have hB6 := hB5.keep hk6 (fun h => h)
    have hk46 := hk5.step hk6 (fun _ _ h => h.elim)
    by_cases he : nm = p0
    · rw [decide_eq_true he] at hb
      subst hb
      refine zrun ?_ ?_
      refine x_store rfl rfl rfl rfl hB6 (by simp [opCells]) trivial ?_
      intro H7 hB7 hk7 hs7
      refine ⟨trivial, ?_⟩
      refine zrun ?_ ?_
      exact nw_round (k + 1, (k : Int)) (by repeat (first | exact True.intro | refine ⟨rfl, ?_⟩)) ⟨by show 1 ≤ k + 1; omega, by show k + 1 ≤ 23; omega, .inr ⟨k, rfl, by show k < k + 1; omega, by rw [hnm, he]⟩, hB7, hk46.step hk7 (fun _ _ h => h)⟩ (by show 23 - (k + 1) < 23 - k; omega)
    · rw [decide_eq_false he] at hb
      subst hb
      refine zrun ?_ ?_
      refine nw_round (k + 1, kk) (by repeat (first | exact True.intro | refine ⟨rfl, ?_⟩)) ⟨by show 1 ≤ k + 1; omega, by show k + 1 ≤ 23; omega, ?_, hB6, hk46⟩ (by show 23 - (k + 1) < 23 - k; omega)
      rcases hKI with ⟨h2, h3⟩ | ⟨m, h2, h3, h4⟩
      · refine .inl ⟨h2, fun i hi1 hi2 e => ?_⟩
        simp only at hi2
        by_cases hik : i = k
        · subst hik
          rw [hnm] at e
          injection e with e
          exact he e
        · exact h3 i hi1 (by omega) e
      · exact .inr ⟨m, h2, by show m < k + 1; omega, h4⟩
  obtain rfl : k = 23 := by omega
  have hkk := hKI.all
  have h1A := h1A kk hkk
  clear h1 hKI hkk
  have hk05 := hk04.old hk5 (fun z hz e => by omega)
  have hBr5 := hBr.keep hk5 (by omega)
  have hRc5 : ∀ i p, ps[i]? = some p → cel H5 (sb r) (so r + i) = some (strV p) := fun i p hp => hk5.cel (hRc i p hp) (by omega)
  refine zrun ?_ ?_
  refine cw_loop (fun i : Nat => [(0, strV s), (2, ptr H.size 0), (3, .int .i64 0), (4, r), (5, ptr H2.size 0), (7, .int .i64 (i : Nat))]) (fun i H' => 1 ≤ i ∧ i ≤ ps.length ∧ Keep (· = H2.size) H5 H' ∧ ∃ S vk vt vd vp, Blk H' H2.size (opCells (oAt rdrR ps i) vk vt vd vp) ∧ OpO H5.size S H' H2.size vk vt vd vp (oAt rdrR ps i)) (fun i => ps.length - i) 1 (by repeat (first | exact True.intro | refine ⟨rfl, ?_⟩)) ⟨Nat.le_refl _, by omega, Keep.refl _ _, fun _ => False, _, _, _, _, by rw [h1A]; exact hB5, by rw [h1A]; exact (OpO.zero _ _ _).num rfl rfl rfl rfl⟩ ?_
  clear hB5
  rintro i H9 ⟨hi1, hi2, hk9, S, vk, vt, vd, vp, hB9, hO9⟩
  have hs9 := hk9.size
  have hpS := hO9.pS
  refine zrun ?_ ?_
  refine cw_cond rfl (fun h1 => ?_) (fun h1 => ?_) <;> (try simp at h1)
  · obtain ⟨p, hp⟩ := getp (l := ps) (j := i) (by omega)
    have hpp := hpm p (List.mem_of_getElem? hp)
    have hcp := hk9.cel (hRc5 i p hp) (by omega)
    have hst := oAt_succ (R := rdrR) hp hi1
    have hbd := oAt_bd rdrR_sz hpm i
    have hpsz := strV_size p
    refine zrun ?_ ?_
    refine cw_loop (fun k : Nat => [(0, strV s), (2, ptr H.size 0), (3, .int .i64 0), (4, r), (5, ptr H2.size 0), (7, .int .i64 (i : Nat)), (8, .int .i64 (k : Nat))]) (fun k H' => H9 = H' ∧ k ≤ p.length ∧ (61 : UInt8) ∉ p.take k) (fun k => p.length - k) 0 (by repeat (first | exact True.intro | refine ⟨rfl, ?_⟩)) ⟨rfl, by omega, by simp⟩ ?_
    rintro k _ ⟨rfl, hkp, hno⟩
    refine zrunc ?_ ?_
    refine cw_cut (fun b : Bool => [(0, strV s), (2, ptr H.size 0), (3, .int .i64 0), (4, r), (5, ptr H2.size 0), (7, .int .i64 (i : Nat)), (8, .int .i64 (k : Nat)), (47, .bool b)]) (fun b H' => H9 = H' ∧ (b = true → k < p.length ∧ (61 : UInt8) ∉ p.take (k + 1)) ∧ (b = false → k = p.length ∨ p[k]? = some 61)) ?_ ?_
    · refine zrun ?_ ?_
      refine x_load rfl rfl (hpmt (hcp)) rfl trivial ?_
      refine zrun ?_ ?_
      refine x_len_str rfl rfl rfl trivial ?_
      rw [hpsz]
      refine zrun ?_ ?_
      by_cases hk : (k : Int) < (p.length : Int)
      · obtain ⟨x, hx⟩ := getp (l := p) (j := k) (by omega)
        rw [decide_eq_true hk]
        refine zrun ?_ ?_
        refine x_load rfl rfl (hpmt (hcp)) rfl trivial ?_
        refine zrun ?_ ?_
        refine x_index_str (c := x) rfl rfl rfl (by omega) (by rw [List.getElem?_toArray]; exact hx) rfl trivial ?_
        refine zrun ?_ ?_
        by_cases hc : x = 61
        · subst hc
          rw [show ((((61 : UInt8).toNat : Nat) : Int) != 61) = false from rfl]
          exact nw_meet false (by repeat (first | exact True.intro | refine ⟨rfl, ?_⟩)) ⟨rfl, (by intro h; cases h), fun _ => .inr hx⟩
        · rw [show (((x.toNat : Nat) : Int) != 61) = true by simp; exact fun h => hc (UInt8.toNat_inj.1 (by show x.toNat = 61; omega))]
          exact nw_meet true (by repeat (first | exact True.intro | refine ⟨rfl, ?_⟩)) ⟨rfl, fun _ => ⟨by omega, no_succ hno hx hc⟩, (by intro h; cases h)⟩
      · rw [decide_eq_false hk]
        refine zrun ?_ ?_
        exact nw_meet false (by repeat (first | exact True.intro | refine ⟨rfl, ?_⟩)) ⟨rfl, (by intro h; cases h), fun _ => .inl (by omega)⟩
    rintro b _ ⟨rfl, hbt, hbf⟩
    cases b with
    | true =>
      obtain ⟨h2, h3⟩ := hbt rfl
      refine zrun ?_ ?_
      exact nw_round (k + 1) (by repeat (first | exact True.intro | refine ⟨rfl, ?_⟩)) ⟨rfl, by omega, h3⟩ (by omega)
    | false =>
      obtain ⟨ca, cb⟩ := cut_at hno (hbf rfl)
      have hml : min (k + 1) p.length ≤ p.length := by omega
      have hmin : min ((k : Int) + 1) ((p.length : Nat) : Int) = ((min (k + 1) p.length : Nat) : Int) := by omega
      have hkr := Keep.refl S H9
      have nSr : ¬ S (sb r) := fun h => by have := (hpS _ h).1; omega
      have nSb : ¬ S H2.size := fun h => (hpS _ h).2.2 rfl
      have oT : stepG rdrR (oAt rdrR ps i) p = takeG rdrR (oAt rdrR ps i) (p.take k) (p.drop (min (k + 1) p.length)) := by unfold stepG; rw [ca, cb]
      rw [oT] at hst
      clear hbt hbf ca cb oT
      refine zrun ?_ ?_
      refine cw_held (fun _ => Keep S H9) ⟨[20, 21], [(0, 0), (4, 0), (10, 0), (16, 0)]⟩ (.op 0 (.op 1 (.op 2 (.op 3 (.op 4 (.op 5 (.op 6 (.op 7 (.op 8 (.op 9 (.op 10 (.op 11 (.op 12 (.op 13 (.op 14 (.op 15 (.op 16 (.op 17 (.op 18 (.op 19 (.op 20 (.op 21 (.nil))))))))))))))))))))))) panicOk_body mixed (by kernel_rfl) ?_
      refine zhrun ?_ ?_
      refine x_loads (cs := opCells (oAt rdrR ps i) vk vt vd vp) rfl rfl rfl (hpmk rfl fun _ hk => Cels.keep (hB9.cels 0 12 (by simp [opCells])) hk (fun _ => nSb)) rfl (okq_load rfl rfl (by assumption)) ?_
      refine zhrun ?_ ?_
      refine x_load rfl rfl (hpmk rfl (fun _ hk => hk.cel hcp nSr)) rfl (okq_load rfl rfl (by assumption)) ?_
      refine zhrun ?_ ?_
      refine x_strL_h rfl rfl rfl hkp rfl (okq_reg rfl rfl) ?_
      refine zhrun ?_ ?_
      refine x_load rfl rfl (hpmk rfl (fun _ hk => hk.cel hcp nSr)) rfl (okq_load rfl rfl (by assumption)) ?_
      refine zhrun ?_ ?_
      refine x_load rfl rfl (hpmk rfl (fun _ hk => hk.cel hcp nSr)) rfl (okq_load rfl rfl (by assumption)) ?_
      refine zhrun ?_ ?_
      refine x_len_str rfl rfl rfl (okq_reg rfl rfl) ?_
      rw [hpsz]
      refine zhrun ?_ ?_
      refine x_min rfl rfl rfl rfl (okq_reg rfl rfl) ?_
      rw [hmin]
      refine zhrun ?_ ?_
      refine x_strL_l rfl rfl rfl hml rfl (okq_reg rfl rfl) ?_
      refine zhrun ?_ ?_
      refine x_call rfl rfl rfl ⟨rfl, rfl⟩ (law_fieldR (nm := p.take k) (v := p.drop (min (k + 1) p.length)) (show H2.size < H5.size by omega) hs9 hO9 (by rw [List.length_drop]; omega) (by have := hbd.pairs; omega)) ?_
      rintro _ Ha ⟨S', xk, xt, xd, xp, rfl, hOa, hSa, hka⟩
      rw [← hst] at hOa ⊢
      refine ⟨okm_keep hka (fun _ _ h => h), ?_⟩
      refine zhrun ?_ ?_
      have hBa := hB9.keep hka nSb
      have hsa := hka.size
      refine x_stores (cs := opCells (oAt rdrR ps (i + 1)) xk xt xd xp) rfl rfl rfl rfl hOa.one hBa (by simp [opCells]) ⟨rfl, rfl⟩ ?_
      intro Hb hBb hkb hsb
      refine ⟨okm_free (by intro c; cases c <;> kernel_rfl), ?_⟩
      have hBb : Blk Hb H2.size (opCells (oAt rdrR ps (i + 1)) xk xt xd xp) := hBb
      refine zhrun ?_ ?_
      refine zrun ?_ ?_
      exact nw_round (i + 1) (by repeat (first | exact True.intro | refine ⟨rfl, ?_⟩)) ⟨by omega, by omega, (hk9.step hka (fun z hz e => by have := (hpS _ e).1; omega)).step hkb (fun _ _ h => h), S', xk, xt, xd, xp, hBb, hOa.keep hkb (fun z _ _ hz e => hz e)⟩ (by omega)
  obtain rfl : i = ps.length := by omega
  rw [hall] at hB9 hO9
  have hbd := oAt_bd rdrR_sz hpm ps.length
  rw [hall] at hbd
  have q0 : cel H9 H2.size 0 = some (.int .i64 (foldG rdrR s).kind) := by rw [hB9.cel]; rfl
  have hk09 := hk05.old hk9 (fun z hz e => by omega)
  have hBr9 := hBr5.keep hk9 (by omega)
  have hV9 := hO9.opv
  have fail : ∀ H6, Keep Non H9 H6 → readG rdrR s = none → ∀ H7, Blk H7 H.size zeroOp → Keep (· = H.size) H6 H7 → ReadRR H (readG rdrR s) (.tuple #[.agg zeroOp.toArray, .int .i64 6]) H7 := fun H6 k6 hn H7 hB7 k7 =>
    ⟨((hk09.non_trans k6)).old k7 (fun z hz e => by omega), _, _, _, _, {}, 6, rfl, opv_zero _ 0, .inr ⟨hn, rfl, rfl⟩⟩
  refine zrun ?_ ?_
  refine x_load rfl rfl (hpmt (q0)) rfl trivial ?_
  refine zrun ?_ ?_
  by_cases hk0 : (foldG rdrR s).kind = 0
  · have hnone : readG rdrR s = none := by rw [hrg, if_pos (.inl hk0)]
    rw [show ((foldG rdrR s).kind == 0) = true by rw [hk0]; rfl]
    refine zrun ?_ ?_
    refine x_build (cs := zeroOp) rfl rfl rfl (by simp) rfl trivial ?_
    refine zrun ?_ ?_
    refine x_stores (cs := zeroOp) rfl rfl rfl rfl (oneC_op rfl rfl rfl rfl) hBr9 (by simp [opCells]) trivial ?_
    intro H7 hB7 hk7 hs7
    refine ⟨trivial, ?_⟩
    have hB7 : Blk H7 H.size zeroOp := hB7
    refine zrun ?_ ?_
    exact cw_retc2 rfl rfl rfl rfl (hB7.cels 0 12 (by simp [opCells])) (fail H9 (Keep.refl _ _) hnone H7 hB7 hk7)
  · rw [show ((foldG rdrR s).kind == 0) = false by simp [hk0]]
    refine zrun ?_ ?_
    refine x_loads (cs := opCells (foldG rdrR s) vk vt vd vp) rfl rfl rfl (hpmt (hB9.cels 0 12 (by simp [opCells]))) rfl trivial ?_
    refine zrun ?_ ?_
    refine x_call rfl rfl rfl trivial (law_SayR hV9 hfok (hbd.sm (by omega) (by omega)) ⟨by omega, by omega⟩) ?_
    rintro _ H6 ⟨hk6, rfl⟩
    refine ⟨trivial, ?_⟩
    refine zrun ?_ ?_
    refine x_sneL rfl rfl rfl rfl trivial ?_
    by_cases hsame : sayO (foldG rdrR s) = s
    · have hsome : readG rdrR s = some (foldG rdrR s) := by rw [hrg, if_neg (by rintro (h | h); exact hk0 h; exact h hsame)]
      rw [show (!decide (sayO (foldG rdrR s) = s)) = false by simp [hsame]]
      have hB6 := hB9.keep hk6 (fun h => h)
      have hBr6 := hBr9.keep hk6 (fun h => h)
      refine zrun ?_ ?_
      refine x_loads (cs := opCells (foldG rdrR s) vk vt vd vp) rfl rfl rfl (hpmt (hB6.cels 0 12 (by simp [opCells]))) rfl trivial ?_
      refine zrun ?_ ?_
      refine x_stores (cs := opCells (foldG rdrR s) vk vt vd vp) rfl rfl rfl rfl hO9.one hBr6 (by simp [opCells]) trivial ?_
      intro H7 hB7 hk7 hs7
      refine ⟨trivial, ?_⟩
      have hB7 : Blk H7 H.size (opCells (foldG rdrR s) vk vt vd vp) := hB7
      have hO7 := (hO9.keep hk6 (fun _ _ _ _ h => h)).keep hk7 (fun z hz _ _ e => by omega)
      refine zrun ?_ ?_
      exact cw_retc2 rfl rfl rfl rfl (hB7.cels 0 12 (by simp [opCells])) ⟨(hk09.non_trans hk6).old hk7 (fun z hz e => by omega), vk, vt, vd, vp, foldG rdrR s, 0, rfl, hO7.opv, .inl ⟨hsome, rfl⟩⟩
    · have hnone : readG rdrR s = none := by rw [hrg, if_pos (.inr hsame)]
      rw [show (!decide (sayO (foldG rdrR s) = s)) = true by simp [hsame]]
      refine zrun ?_ ?_
      refine x_build (cs := zeroOp) rfl rfl rfl (by simp) rfl trivial ?_
      refine zrun ?_ ?_
      refine x_stores (cs := zeroOp) rfl rfl rfl rfl (oneC_op rfl rfl rfl rfl) (hBr9.keep hk6 (fun h => h)) (by simp [opCells]) trivial ?_
      intro H7 hB7 hk7 hs7
      refine ⟨trivial, ?_⟩
      have hB7 : Blk H7 H.size zeroOp := hB7
      refine zrun ?_ ?_
      exact cw_retc2 rfl rfl rfl rfl (hB7.cels 0 12 (by simp [opCells])) (fail H6 hk6 hnone H7 hB7 hk7)
end Go.Proofs.YtbcflfkajkmkdaaDoor.X
