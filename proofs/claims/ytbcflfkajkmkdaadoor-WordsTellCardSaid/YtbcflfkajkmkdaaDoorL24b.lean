/- Chapter 24, the laws: what was said is read as it was. -/
import Derived.Test.YtbcflfkajkmkdaaDoorL24
namespace Go.Proofs.YtbcflfkajkmkdaaDoor.X
open Go Go.Proofs Go.RowKit
set_option linter.unusedVariables false
set_option linter.unusedSimpArgs false
set_option maxRecDepth 10000
set_option maxHeartbeats 16000000

theorem OpOk.withKind {o : Opn} (h : OpOk o) (k : Int) : OpOk { o with kind := k } := ⟨h.slot, h.a, h.b, h.cursor, h.tag, h.n, h.val, h.pairs⟩
theorem OpGood.withKind {o : Opn} (h : OpGood o) (k : Int) : OpGood { o with kind := k } := ⟨h.key, h.tol, h.data, h.pairs, h.each⟩
theorem OpV.withKind {H : Heap} {vk vt vd vp : Value} {o : Opn} (h : OpV H vk vt vd vp o) (k : Int) : OpV H vk vt vd vp { o with kind := k } := ⟨h.key, h.tov, h.data, h.pairs⟩
theorem sub_len {a b : List Bytes} : (joinS (a ++ b)).length = (joinS a).length + (joinS b).length := by rw [joinS_append, List.length_append]
/-- what is said of what may be said is short -/
theorem say_short {o : Opn} (hg : OpGood o) (ho : OpOk o) (h0 : 1 ≤ o.kind) (h1 : o.kind < 23) : (sayO o).length ≤ 15000 := by
  unfold sayO
  rw [if_neg (by omega)]
  unfold sayB partsOf numF bytF
  have hi : ∀ nm {n : Int}, I64 n → (joinS (pI nm n)).length ≤ nm.length + 23 := fun nm n h => by
    have := Lib.itoa_length_le _ h.1 h.2
    unfold pI
    split
    · simp [joinS]
    · simp [joinS]; omega
  have hb : ∀ nm (l : Bytes), (joinS (pB nm l)).length ≤ nm.length + 2 + 2 * l.length := fun nm l => by
    unfold pB
    split
    · simp [joinS]
    · simp [joinS, hexB_length]; omega
  have hu : (joinS (pU nVal o.val)).length ≤ 25 := by
    have := dec_le ho.val
    unfold pU
    split
    · simp [joinS]
    · simp [joinS, nVal]; omega
  have hp : (joinS (o.pairs.map pP)).length ≤ 150 * o.pairs.length := by
    have h := joinS_length (ps := o.pairs.map pP) (M := 149) (fun p hp => by
      rw [List.mem_map] at hp
      obtain ⟨x, hx, rfl⟩ := hp
      have h1 := hg.each x hx
      have h2 := dec_le (ho.pairs x hx)
      simp [pP, nPair, hexB_length]
      omega)
    rw [List.length_map] at h
    exact h
  have h1 := hi nSlot ho.slot
  have h2 := hi nA ho.a
  have h3 := hi nB ho.b
  have h4 := hi nCursor ho.cursor
  have h5 := hi nTag ho.tag
  have h6 := hi nN ho.n
  have h7 := hb nKey o.key
  have h8 := hb nTo o.to
  have h9 := hb nData o.data
  have g1 := hg.key
  have g2 := hg.tol
  have g3 := hg.data
  have g4 := hg.pairs
  have gn := nameOf_length o.kind
  simp only [List.flatMap_cons, List.flatMap_nil, List.append_nil, List.length_append, joinS_append]
  simp only [show nSlot.length = 4 from rfl, show nA.length = 1 from rfl, show nB.length = 1 from rfl, show nCursor.length = 6 from rfl, show nTag.length = 3 from rfl, show nN.length = 1 from rfl, show nKey.length = 3 from rfl, show nTo.length = 2 from rfl, show nData.length = 4 from rfl] at h1 h2 h3 h4 h5 h6 h7 h8 h9
  omega

section
variable {P : Program} {n : Nat} {B : Exit → Act → World → Prop} {w0 : World} {md : Md} {ops : List Oper} {rest : OT} {k : K} {σ : Sl} {H : Heap} {i : Nat}
variable {d : Nat} {ty : TypeId} {pos : String} {after : Array Edge} {g : Option (Nat × Bool)}
theorem x_strL_h {t : Nat} {x hi : Operand} {l : Bytes} {kh : IntKind} {h : Nat} [hT : Ty P t .string] (hg : gd ops σ g = some true) (hx : evo σ x = some (strV l)) (hhi : evo σ hi = some (.int kh (h : Nat))) (h2 : h ≤ l.length) (hd : Nat.blt d n = true) (hk : okq ops md i ⟨some d, .slice t x none (some hi) none, ty, pos, after, g⟩ H)
    (hh : XW P n B w0 md ops rest k ((d, strV (l.take h)) :: σ) H) : XW P n B w0 md ops (.op i ⟨some d, .slice t x none (some hi) none, ty, pos, after, g⟩ rest) k σ H := by
  refine x_str_h hg hx hhi (by omega) (by rw [strV_size]; omega) hd hk ?_
  have e : (⟨l.toArray⟩ : ByteArray).extract 0 (h : Int).toNat = ⟨(l.take h).toArray⟩ := by
    apply ByteArray.ext
    apply Array.ext'
    rw [Lib.extract_from_zero]
    rfl
  rw [e]
  exact hh
theorem x_strL_l {t : Nat} {x lo : Operand} {l : Bytes} {kl : IntKind} {h : Nat} [hT : Ty P t .string] (hg : gd ops σ g = some true) (hx : evo σ x = some (strV l)) (hlo : evo σ lo = some (.int kl (h : Nat))) (h2 : h ≤ l.length) (hd : Nat.blt d n = true) (hk : okq ops md i ⟨some d, .slice t x (some lo) none none, ty, pos, after, g⟩ H)
    (hh : XW P n B w0 md ops rest k ((d, strV (l.drop h)) :: σ) H) : XW P n B w0 md ops (.op i ⟨some d, .slice t x (some lo) none none, ty, pos, after, g⟩ rest) k σ H := by
  refine x_str_l hg hx hlo (by omega) (by rw [strV_size]; omega) hd hk ?_
  have e : (⟨l.toArray⟩ : ByteArray).extract (h : Int).toNat (⟨l.toArray⟩ : ByteArray).size = ⟨(l.drop h).toArray⟩ := by
    apply ByteArray.ext
    apply Array.ext'
    rw [Lib.extract_to_end]
    rfl
  rw [e]
  exact hh
end
theorem walk_WordsBack {vk vt vd vp wk wt wd wp : Value} {o p : Opn} {at_ : Int} {H : Heap} (hV : OpV H vk vt vd vp o) (hW : OpV H wk wt wd wp p) (ho : OpOk o) (hp : OpOk p) (hL : Laid24 H) :
    Ret Tryd.prog 3 [.agg (opCells o vk vt vd vp).toArray, .agg (opCells p wk wt wd wp).toArray, .int .i64 at_] H (Yes H) := by
  have oco := oneC_op (o := o) (isSl_oneC hV.key.sl) (isSl_oneC hV.tov.sl) (isSl_oneC hV.data.sl) (isSl_oneC hV.pairs.sl)
  have ocp := oneC_op (o := p) (isSl_oneC hW.key.sl) (isSl_oneC hW.tov.sl) (isSl_oneC hW.data.sl) (isSl_oneC hW.pairs.sl)
  refine ret_of Tryd.func3 rfl rfl rfl rfl ?_
  intro w0
  refine zrun ?_ ?_
  refine x_box (cs := opCells o vk vt vd vp) rfl rfl rfl trivial ?_
  intro H1 hn1
  refine ⟨trivial, ?_⟩
  refine zrun ?_ ?_
  refine x_box (cs := opCells p wk wt wd wp) rfl rfl rfl trivial ?_
  intro H2 hn2
  refine ⟨trivial, ?_⟩
  have hs1 := hn1.size
  have hs2 := hn2.size
  have hk02 := hn1.keep.non_trans hn2.keep
  have hBo := hn1.blk.keep hn2.keep (fun h => h)
  have hBp := hn2.blk
  refine zrun ?_ ?_
  refine x_loads (cs := opCells o vk vt vd vp) rfl rfl rfl (hpmt (hBo.cels 0 12 (by simp [opCells]))) rfl trivial ?_
  refine zrun ?_ ?_
  refine x_loads (cs := opCells p wk wt wd wp) rfl rfl rfl (hpmt (hBp.cels 0 12 (by simp [opCells]))) rfl trivial ?_
  refine zrun ?_ ?_
  refine x_buildSliceS2 (c := opCells o vk vt vd vp) (c' := opCells p wk wt wd wp) (by rfl) rfl rfl (by omega) (by rfl) (by rfl) rfl trivial ?_
  intro H3 hn3
  refine ⟨trivial, ?_⟩
  have hk03 := hk02.non_trans hn3.keep
  have hL3 := hL.keepN hk03
  have hBo3 := hBo.keep hn3.keep (fun h => h)
  have hBp3 := hBp.keep hn3.keep (fun h => h)
  have hs3 := hn3.size
  have hV3 := hV.keepN hk03
  have hW3 := hW.keepN hk03
  refine zrun ?_ ?_
  refine x_call rfl rfl rfl trivial (law_GreatOps 2 (by omega) (isSl_some (b := H2.size) (o := 0) (n := 2) (c := 2) (by omega) (by omega)) (fun j => if j = 0 then o else p) (fun j hj => by
    match j, hj with
    | 0, _ => exact ⟨vk, vt, vd, vp, fun i hi => by
        show cel H3 H2.size (0 + 0 * 12 + i) = _
        rw [hn3.blk.cel, show 0 + 0 * 12 + i = i by omega, List.getElem?_append_left (by simp [opCells]; omega)]
        rfl, hV3⟩
    | 1, _ => exact ⟨wk, wt, wd, wp, fun i hi => by
        show cel H3 H2.size (0 + 1 * 12 + i) = _
        rw [hn3.blk.cel, List.getElem?_append_right (by simp [opCells])]
        show (opCells p wk wt wd wp)[0 + 1 * 12 + i - 12]? = _
        rw [show 0 + 1 * 12 + i - 12 = i by omega]
        rfl, hW3⟩)) ?_
  rintro _ _ ⟨rfl, g, rfl, hg⟩
  refine ⟨trivial, ?_⟩
  cases g with
  | true =>
    refine zrun ?_ ?_
    refine x_call rfl rfl rfl trivial (law_awake hL3) ?_
    rintro _ H4 ⟨hk4, rfl⟩
    refine ⟨trivial, ?_⟩
    refine zrun ?_ ?_
    exact cw_ret1 rfl rfl ⟨rfl, hk03.non_trans hk4⟩
  | false =>
    have hgo : OpGood o := hg rfl 0 (by omega)
    have hgp : OpGood p := hg rfl 1 (by omega)
    have lo := low_bd o.kind (m := 22) (by omega)
    have lp := low_bd p.kind (m := 22) (by omega)
    obtain ⟨o', ho'⟩ : ∃ o' : Opn, o' = { o with kind := 1 + low o.kind 22 } := ⟨_, rfl⟩
    obtain ⟨p', hp'⟩ : ∃ p' : Opn, p' = { p with kind := 1 + low p.kind 22 } := ⟨_, rfl⟩
    have k1 : cel H3 H.size 0 = some (.int .i64 o.kind) := by rw [hBo3.cel]; rfl
    have k2 : cel H3 H1.size 0 = some (.int .i64 p.kind) := by rw [hBp3.cel]; rfl
    refine zrunc ?_ ?_
    refine cw_cut (fun _ : Unit => [(2, .int .i64 at_), (3, ptr H.size 0), (4, ptr H1.size 0)]) (fun _ H' => Blk H' H.size (opCells o' vk vt vd vp) ∧ Blk H' H1.size (opCells p' wk wt wd wp) ∧ Keep (fun z => z = H.size ∨ z = H1.size) H3 H') ?_ ?_
    · refine cw_held (fun _ _ => True) ⟨[1, 2, 5, 6, 9, 11], []⟩ (.op 0 (.op 4 (.alt (.op 1 (.alt (.op 2 (.op 3 (.op 8 (.op 5 (.op 6 (.op 7 (.op 9 (.op 10 (.op 11 (.nil)))))))))) (.op 5 (.op 2 (.op 3 (.op 8 (.op 6 (.op 7 (.op 9 (.op 10 (.op 11 (.nil)))))))))))) (.op 5 (.op 1 (.op 2 (.op 3 (.op 8 (.op 6 (.op 7 (.op 9 (.op 10 (.op 11 (.nil)))))))))))))) panicOk_body mixed (by kernel_rfl) ?_
      refine zhrun ?_ ?_
      refine x_alt ?_ ?_
      · refine x_load_e rfl rfl k1 rfl ⟨rfl, rfl⟩ ?_
        refine zhrun ?_ ?_
        refine x_alt ?_ ?_
        · refine x_call rfl rfl rfl ⟨rfl, rfl⟩ (law_LowF o.kind 22 (by omega) H3) ?_
          rintro _ _ ⟨rfl, rfl⟩
          refine ⟨okm_nil rfl, ?_⟩
          refine zhrun ?_ ?_
          refine x_load_e rfl rfl k2 rfl ⟨rfl, rfl⟩ ?_
          refine zhrun ?_ ?_
          refine x_call rfl rfl rfl ⟨rfl, rfl⟩ (law_LowF p.kind 22 (by omega) H3) ?_
          rintro _ _ ⟨rfl, rfl⟩
          refine ⟨okm_nil rfl, ?_⟩
          refine zhrun ?_ ?_
          refine x_store rfl rfl rfl rfl hBo3 (by simp [opCells]) ⟨rfl, rfl⟩ ?_
          intro H4 hB4 hk4 hs4
          refine ⟨okm_nil rfl, ?_⟩
          refine zhrun ?_ ?_
          refine x_store rfl rfl rfl rfl (hBp3.keep hk4 (by omega)) (by simp [opCells]) ⟨rfl, rfl⟩ ?_
          intro H5 hB5 hk5 hs5
          refine ⟨okm_nil rfl, ?_⟩
          refine zhrun ?_ ?_
          exact nw_meet () (by repeat (first | exact True.intro | refine ⟨rfl, ?_⟩)) ⟨by rw [ho']; exact hB4.keep hk5 (by omega), by rw [hp']; exact hB5, (hk4.trans hk5).mono fun z hz e => e.imp id (fun e => e.1)⟩
        · refine x_load_e rfl rfl k2 rfl ⟨rfl, rfl⟩ ?_
          refine zhrun ?_ ?_
          refine x_call rfl rfl rfl ⟨rfl, rfl⟩ (law_LowF o.kind 22 (by omega) H3) ?_
          rintro _ _ ⟨rfl, rfl⟩
          refine ⟨okm_nil rfl, ?_⟩
          refine zhrun ?_ ?_
          refine x_call rfl rfl rfl ⟨rfl, rfl⟩ (law_LowF p.kind 22 (by omega) H3) ?_
          rintro _ _ ⟨rfl, rfl⟩
          refine ⟨okm_nil rfl, ?_⟩
          refine zhrun ?_ ?_
          refine x_store rfl rfl rfl rfl hBo3 (by simp [opCells]) ⟨rfl, rfl⟩ ?_
          intro H4 hB4 hk4 hs4
          refine ⟨okm_nil rfl, ?_⟩
          refine zhrun ?_ ?_
          refine x_store rfl rfl rfl rfl (hBp3.keep hk4 (by omega)) (by simp [opCells]) ⟨rfl, rfl⟩ ?_
          intro H5 hB5 hk5 hs5
          refine ⟨okm_nil rfl, ?_⟩
          refine zhrun ?_ ?_
          exact nw_meet () (by repeat (first | exact True.intro | refine ⟨rfl, ?_⟩)) ⟨by rw [ho']; exact hB4.keep hk5 (by omega), by rw [hp']; exact hB5, (hk4.trans hk5).mono fun z hz e => e.imp id (fun e => e.1)⟩
      · refine x_load_e rfl rfl k2 rfl ⟨rfl, rfl⟩ ?_
        refine zhrun ?_ ?_
        refine x_load_e rfl rfl k1 rfl ⟨rfl, rfl⟩ ?_
        refine zhrun ?_ ?_
        refine x_call rfl rfl rfl ⟨rfl, rfl⟩ (law_LowF o.kind 22 (by omega) H3) ?_
        rintro _ _ ⟨rfl, rfl⟩
        refine ⟨okm_nil rfl, ?_⟩
        refine zhrun ?_ ?_
        refine x_call rfl rfl rfl ⟨rfl, rfl⟩ (law_LowF p.kind 22 (by omega) H3) ?_
        rintro _ _ ⟨rfl, rfl⟩
        refine ⟨okm_nil rfl, ?_⟩
        refine zhrun ?_ ?_
        refine x_store rfl rfl rfl rfl hBo3 (by simp [opCells]) ⟨rfl, rfl⟩ ?_
        intro H4 hB4 hk4 hs4
        refine ⟨okm_nil rfl, ?_⟩
        refine zhrun ?_ ?_
        refine x_store rfl rfl rfl rfl (hBp3.keep hk4 (by omega)) (by simp [opCells]) ⟨rfl, rfl⟩ ?_
        intro H5 hB5 hk5 hs5
        refine ⟨okm_nil rfl, ?_⟩
        refine zhrun ?_ ?_
        exact nw_meet () (by repeat (first | exact True.intro | refine ⟨rfl, ?_⟩)) ⟨by rw [ho']; exact hB4.keep hk5 (by omega), by rw [hp']; exact hB5, (hk4.trans hk5).mono fun z hz e => e.imp id (fun e => e.1)⟩
    rintro _ H5 ⟨hB5, hC5, hk5⟩
    have hk05 : Keep Non H H5 := hk03.old hk5 (fun z hz e => by omega)
    have hL5 := hL.keepN hk05
    have hs5 := hk5.size
    have hko : 1 ≤ o'.kind ∧ o'.kind < 23 := by rw [ho']; exact ⟨by show 1 ≤ 1 + low _ _; omega, by show 1 + low _ _ < 23; omega⟩
    have hkp : 1 ≤ p'.kind ∧ p'.kind < 23 := by rw [hp']; exact ⟨by show 1 ≤ 1 + low _ _; omega, by show 1 + low _ _ < 23; omega⟩
    have hoo : OpOk o' := by rw [ho']; exact ho.withKind _
    have hpp : OpOk p' := by rw [hp']; exact hp.withKind _
    have hgo' : OpGood o' := by rw [ho']; exact hgo.withKind _
    have hgp' : OpGood p' := by rw [hp']; exact hgp.withKind _
    have hVo : ∀ {H'}, Keep Non H H' → OpV H' vk vt vd vp o' := fun k => by rw [ho']; exact (hV.keepN k).withKind _
    have hVp : ∀ {H'}, Keep Non H H' → OpV H' wk wt wd wp p' := fun k => by rw [hp']; exact (hW.keepN k).withKind _
    clear ho' hp' hgo hgp hg k1 k2 hBo3 hBp3 hBo hBp
    have hsl := say_short hgo' hoo hko.1 hko.2
    have hrd := read_say rdrW_ok hoo hko.1 hko.2
    refine zrun ?_ ?_
    refine x_loads (cs := opCells o' vk vt vd vp) rfl rfl rfl (hpmt (hB5.cels 0 12 (by simp [opCells]))) rfl trivial ?_
    refine zrun ?_ ?_
    refine x_call rfl rfl rfl trivial (law_Say (hVo hk05) hoo hgo'.sm ⟨by omega, by omega⟩ hL5) ?_
    rintro _ H6 ⟨hk6, rfl⟩
    refine ⟨trivial, ?_⟩
    have hk06 := hk05.non_trans hk6
    refine zrun ?_ ?_
    refine x_call rfl rfl rfl trivial (law_Read (by omega) (hL.keepN hk06)) ?_
    rintro _ H7 ⟨hk7, b7, S7, xk, xt, xd, xp, q, c, rfl, hO7, hr⟩
    rw [hrd] at hr
    obtain ⟨rfl, rfl⟩ : o' = q ∧ c = 0 := by
      rcases hr with ⟨h1, h2⟩ | ⟨h1, _⟩
      · exact ⟨Option.some.inj h1, h2⟩
      · cases h1
    clear hr
    refine ⟨trivial, ?_⟩
    have hk07 := hk06.non_trans hk7
    refine zrun ?_ ?_
    refine x_alloc (zs := zeroOp) rfl rfl trivial ?_
    intro H8 hn8
    refine ⟨trivial, ?_⟩
    refine zrun ?_ ?_
    refine x_stores (cs := opCells o' xk xt xd xp) rfl rfl rfl rfl hO7.one hn8.blk (by simp [opCells]) trivial ?_
    intro H9 hB9 hk9 hs9
    refine ⟨trivial, ?_⟩
    have hB9 : Blk H9 H7.size (opCells o' xk xt xd xp) := hB9
    have hk79 : Keep Non H7 H9 := keep_at hn8.keep hk9 (Nat.le_refl _)
    have hk59 := (hk6.non_trans hk7).non_trans hk79
    have hk09 := hk07.non_trans hk79
    have hBo9 := hB5.keep hk59 (fun h => h)
    have hBp9 := hC5.keep hk59 (fun h => h)
    have hX9 := hO7.opv.keepN hk79
    have hne : sayO o' ≠ [] := fun e => by
      have := parts_say hko.1 hko.2
      rw [e] at this
      have h2 := kindOf_name hko.1 hko.2
      simp only [partsC, List.cons.injEq] at this
      rw [← this.1] at h2
      have : kindOf [] = 0 := rfl
      omega
    refine zrun ?_ ?_
    rw [show ((0 : Int) != 0) = false from rfl]
    refine zrun ?_ ?_
    refine x_seqL (b := []) rfl rfl rfl rfl trivial ?_
    rw [decide_eq_false hne]
    refine zrun ?_ ?_
    refine x_loads (cs := opCells o' xk xt xd xp) rfl rfl rfl (hpmt (hB9.cels 0 12 (by simp [opCells]))) rfl trivial ?_
    refine zrun ?_ ?_
    refine x_loads (cs := opCells o' vk vt vd vp) rfl rfl rfl (hpmt (hBo9.cels 0 12 (by simp [opCells]))) rfl trivial ?_
    refine zrun ?_ ?_
    refine x_call rfl rfl rfl trivial (law_SameOp hX9 (hVo hk09)) ?_
    rintro _ Ha ⟨hka, rfl⟩
    refine ⟨trivial, ?_⟩
    rw [decide_eq_true rfl]
    have hk0a := hk09.non_trans hka
    have hBa := hB9.keep hka (fun h => h)
    have hBoa := hBo9.keep hka (fun h => h)
    have hBpa := hBp9.keep hka (fun h => h)
    refine zrun ?_ ?_
    refine x_loads (cs := opCells o' xk xt xd xp) rfl rfl rfl (hpmt (hBa.cels 0 12 (by simp [opCells]))) rfl trivial ?_
    refine zrun ?_ ?_
    refine x_loads (cs := opCells o' vk vt vd vp) rfl rfl rfl (hpmt (hBoa.cels 0 12 (by simp [opCells]))) rfl trivial ?_
    refine zrun ?_ ?_
    refine x_call rfl rfl rfl trivial (law_Same (hX9.keepN hka) (hVo hk0a)) ?_
    rintro _ Hb ⟨hkb, rfl⟩
    refine ⟨trivial, ?_⟩
    rw [decide_eq_true rfl]
    have hk0b := hk0a.non_trans hkb
    have hBob := hBoa.keep hkb (fun h => h)
    have hBpb := hBpa.keep hkb (fun h => h)
    refine zrun ?_ ?_
    refine x_len_str rfl rfl rfl trivial ?_
    rw [strV_size]
    refine zrun ?_ ?_
    refine x_call rfl rfl rfl trivial (law_LowF at_ (((sayO o').length : Int) + 1) (by omega) _) ?_
    rintro _ _ ⟨rfl, rfl⟩
    refine ⟨trivial, ?_⟩
    have la := low_bd at_ (m := ((sayO o').length : Int) + 1) (by omega)
    obtain ⟨q, hq⟩ : ∃ q : Nat, low at_ (((sayO o').length : Int) + 1) = q := ⟨_, (Int.toNat_of_nonneg la.1).symm⟩
    rw [hq] at la ⊢
    have hbl := read_blank rdrW_ok hko.1 hko.2 q
    have hlt : ((sayO o').take q ++ [32] ++ (sayO o').drop q).length ≤ 20000 := by simp; omega
    have hbl2 : readG rdrW ((sayO o').take q ++ [32] ++ (sayO o').drop q) = none := by rw [← hbl]; simp
    refine zrunc ?_ ?_
    refine cw_cut (fun _ : Unit => [(3, ptr H.size 0), (4, ptr H1.size 0), (7, strV (sayO o')), (11, .int .i64 6)]) (fun _ H' => Keep Non Hb H') ?_ ?_
    · refine cw_held (fun _ _ => True) ⟨[8, 12, 13], []⟩ (.op 0 (.op 1 (.op 2 (.op 3 (.op 4 (.op 5 (.op 6 (.op 7 (.alt (.op 8 (.op 9 (.op 10 (.op 11 (.op 12 (.op 13 (.op 14 (.nil)))))))) (.op 12 (.op 8 (.op 9 (.op 10 (.op 11 (.op 13 (.op 14 (.nil))))))))))))))))) panicOk_body mixed (by kernel_rfl) ?_
      refine zhrun ?_ ?_
      refine x_strL_h rfl rfl rfl (by omega) rfl (okq_reg rfl rfl) ?_
      refine zhrun ?_ ?_
      refine x_cat (b := [32]) (by simp; omega) rfl rfl rfl rfl (okq_reg rfl rfl) ?_
      refine zhrun ?_ ?_
      refine x_strL_l rfl rfl rfl (by omega) rfl (okq_reg rfl rfl) ?_
      refine zhrun ?_ ?_
      refine x_cat (by simp; omega) rfl rfl rfl rfl (okq_reg rfl rfl) ?_
      refine zhrun ?_ ?_
      refine x_alt ?_ ?_
      · refine x_call rfl rfl rfl ⟨rfl, rfl⟩ (law_Read hlt (hL.keepN (hk0b))) ?_
        rintro _ Hc ⟨hkc, bc, Sc, yk, yt, yd, yp, q2, c2, rfl, hOc, hr⟩
        rw [hbl2] at hr
        obtain ⟨rfl, rfl⟩ : q2 = {} ∧ c2 = 6 := by
          rcases hr with ⟨h1, h2⟩ | ⟨_, h1, h2⟩
          · cases h1
          · exact ⟨h1, h2⟩
        clear hr
        refine ⟨okm_nil rfl, ?_⟩
        refine zhrun ?_ ?_
        refine x_alloc (zs := zeroOp) rfl rfl ⟨rfl, rfl⟩ ?_
        intro Hd hnd
        refine ⟨okm_nil rfl, ?_⟩
        refine zhrun ?_ ?_
        refine x_stores (cs := opCells {} yk yt yd yp) rfl rfl rfl rfl hOc.one hnd.blk (by simp [opCells]) ⟨rfl, rfl⟩ ?_
        intro He hBe hke hse
        refine ⟨okm_nil rfl, ?_⟩
        refine zhrun ?_ ?_
        exact nw_meet () (by repeat (first | exact True.intro | refine ⟨rfl, ?_⟩)) (hkc.non_trans (keep_at hnd.keep hke (Nat.le_refl _)))
      · refine x_alloc (zs := zeroOp) rfl rfl ⟨rfl, rfl⟩ ?_
        intro Hd hnd
        refine ⟨okm_nil rfl, ?_⟩
        refine zhrun ?_ ?_
        refine x_call rfl rfl rfl ⟨rfl, rfl⟩ (law_Read hlt (hL.keepN (hk0b.non_trans hnd.keep))) ?_
        rintro _ Hc ⟨hkc, bc, Sc, yk, yt, yd, yp, q2, c2, rfl, hOc, hr⟩
        rw [hbl2] at hr
        obtain ⟨rfl, rfl⟩ : q2 = {} ∧ c2 = 6 := by
          rcases hr with ⟨h1, h2⟩ | ⟨_, h1, h2⟩
          · cases h1
          · exact ⟨h1, h2⟩
        clear hr
        refine ⟨okm_nil rfl, ?_⟩
        refine zhrun ?_ ?_
        refine x_stores (cs := opCells {} yk yt yd yp) rfl rfl rfl rfl hOc.one (hnd.blk.keep hkc (fun h => h)) (by simp [opCells]) ⟨rfl, rfl⟩ ?_
        intro He hBe hke hse
        refine ⟨okm_nil rfl, ?_⟩
        refine zhrun ?_ ?_
        exact nw_meet () (by repeat (first | exact True.intro | refine ⟨rfl, ?_⟩)) (keep_at (hnd.keep.non_trans hkc) hke (Nat.le_refl _))
    rintro _ Hc hkc
    have hk0c := hk0b.non_trans hkc
    have hBoc := hBob.keep hkc (fun h => h)
    have hBpc := hBpb.keep hkc (fun h => h)
    have hkr := Keep.refl Non Hc
    refine zrun ?_ ?_
    refine cw_held (fun _ => Keep Non Hc) ⟨[5, 8, 15, 18, 22], [(3, 0), (4, 0), (7, 0), (13, 0), (14, 0), (16, 0), (17, 0)]⟩ (.op 0 (.op 1 (.op 2 (.op 3 (.op 4 (.op 6 (.op 7 (.op 5 (.op 8 (.op 9 (.op 10 (.op 11 (.op 12 (.op 13 (.op 14 (.op 16 (.op 17 (.op 15 (.op 18 (.op 19 (.op 20 (.op 21 (.op 22 (.op 23 (.op 24 (.nil)))))))))))))))))))))))))) panicOk_body mixed (by kernel_rfl) ?_
    refine zhrun ?_ ?_
    rw [show (((6 : Int)) == 6) = true from rfl]
    refine zhrun ?_ ?_
    refine x_loads (cs := opCells o' vk vt vd vp) rfl rfl rfl (hpmk rfl fun _ hk => Cels.keep (hBoc.cels 0 12 (by simp [opCells])) hk (fun _ h => h)) rfl (okq_load rfl rfl (by assumption)) ?_
    refine zhrun ?_ ?_
    refine x_loads (cs := opCells p' wk wt wd wp) rfl rfl rfl (hpmk rfl fun _ hk => Cels.keep (hBpc.cels 0 12 (by simp [opCells])) hk (fun _ h => h)) rfl (okq_load rfl rfl (by assumption)) ?_
    refine zhrun ?_ ?_
    refine x_loads (cs := opCells p' wk wt wd wp) rfl rfl rfl (hpmk rfl fun _ hk => Cels.keep (hBpc.cels 0 12 (by simp [opCells])) hk (fun _ h => h)) rfl (okq_load rfl rfl (by assumption)) ?_
    refine zhrun ?_ ?_
    refine x_call rfl rfl rfl ⟨rfl, rfl⟩ (law_Same (hVo hk0c) (hVp hk0c)) ?_
    rintro _ Hd ⟨hkd, rfl⟩
    refine ⟨okm_keep hkd (fun _ _ h => h), ?_⟩
    have hkr := hkd
    refine zhrun ?_ ?_
    refine x_call rfl rfl rfl ⟨rfl, rfl⟩ (law_Say (hVp (hk0c.non_trans hkd)) hpp hgp'.sm ⟨by omega, by omega⟩ (hL.keepN (hk0c.non_trans hkd))) ?_
    rintro _ He ⟨hke, rfl⟩
    refine ⟨okm_keep hke (fun _ _ h => h), ?_⟩
    have hkr := hkd.non_trans hke
    have hk0e := hk0c.non_trans hkr
    refine zhrun ?_ ?_
    refine x_seqL rfl rfl rfl rfl (okq_reg rfl rfl) ?_
    rw [show decide (sayO o' = sayO p') = decide (o' = p') from decide_eq_decide.2 (say_inj rdrW_ok hoo hpp hko.1 hko.2 hkp.1 hkp.2)]
    refine zhrun ?_ ?_
    refine x_beq rfl rfl rfl rfl (okq_reg rfl rfl) ?_
    rw [beq_self_eq_true]
    refine zhrun ?_ ?_
    refine x_loads (cs := opCells o' vk vt vd vp) rfl rfl rfl (hpmk rfl fun _ hk => Cels.keep (hBoc.cels 0 12 (by simp [opCells])) hk (fun _ h => h)) rfl (okq_load rfl rfl (by assumption)) ?_
    refine zhrun ?_ ?_
    refine x_loads (cs := opCells p' wk wt wd wp) rfl rfl rfl (hpmk rfl fun _ hk => Cels.keep (hBpc.cels 0 12 (by simp [opCells])) hk (fun _ h => h)) rfl (okq_load rfl rfl (by assumption)) ?_
    refine zhrun ?_ ?_
    refine x_loads (cs := opCells o' vk vt vd vp) rfl rfl rfl (hpmk rfl fun _ hk => Cels.keep (hBoc.cels 0 12 (by simp [opCells])) hk (fun _ h => h)) rfl (okq_load rfl rfl (by assumption)) ?_
    refine zhrun ?_ ?_
    refine x_loads (cs := opCells p' wk wt wd wp) rfl rfl rfl (hpmk rfl fun _ hk => Cels.keep (hBpc.cels 0 12 (by simp [opCells])) hk (fun _ h => h)) rfl (okq_load rfl rfl (by assumption)) ?_
    refine zhrun ?_ ?_
    refine x_call rfl rfl rfl ⟨rfl, rfl⟩ (law_Same (hVo hk0e) (hVp hk0e)) ?_
    rintro _ Hf ⟨hkf, rfl⟩
    refine ⟨okm_keep hkf (fun _ _ h => h), ?_⟩
    have hk0f := hk0e.non_trans hkf
    refine zhrun ?_ ?_
    refine x_call rfl rfl rfl ⟨rfl, rfl⟩ (law_SameOp (hVo hk0f) (hVp hk0f)) ?_
    rintro _ Hg ⟨hkg, rfl⟩
    refine ⟨okm_keep hkg (fun _ _ h => h), ?_⟩
    have hk0g := hk0f.non_trans hkg
    refine zhrun ?_ ?_
    refine x_beq rfl rfl rfl rfl (okq_reg rfl rfl) ?_
    rw [beq_self_eq_true]
    refine zhrun ?_ ?_
    refine x_call rfl rfl rfl ⟨rfl, rfl⟩ (law_awake (hL.keepN hk0g)) ?_
    rintro _ Hh ⟨hkh, rfl⟩
    refine ⟨okm_keep hkh (fun _ _ h => h), ?_⟩
    refine zhrun ?_ ?_
    refine zrun ?_ ?_
    exact cw_ret1 rfl rfl ⟨rfl, hk0g.non_trans hkh⟩
end Go.Proofs.YtbcflfkajkmkdaaDoor.X
