/- Chapter 11, the program: radix trees. -/
import Derived.Test.YtkdmcbacofafpaaDoorP11b
namespace Go.Proofs.YtkdmcbacofafpaaDoor.X
open Go Go.Proofs
set_option linter.unusedVariables false
set_option linter.unusedSimpArgs false
set_option maxRecDepth 10000
set_option maxHeartbeats 4000000

section
variable {P : Program} {n : Nat} {B : Exit → Act → World → Prop} {w0 : World} {md : Md} {ops : List Oper} {rest : OT} {k : K} {σ : Sl} {H : Heap} {i : Nat}
variable {d : Nat} {ty : TypeId} {pos : String} {after : Array Edge} {g : Option (Nat × Bool)}
/-- a cell of a fixed row -/
theorem x_indexAddrA {t e m b o bb : Nat} {z : Value} {x y : Operand} {ki : IntKind} {j : Int} [hT : Ty P t (.array m e)] [hI : Inf P e 1 bb z] (hg : gd ops σ g = some true) (hx : evo σ x = some (ptr b o)) (hy : evo σ y = some (.int ki j)) (h0 : 0 ≤ j) (h1 : j < m) (hd : Nat.blt d n = true) (hk : okq ops md i ⟨some d, .indexAddr t x y, ty, pos, after, g⟩ H)
    (h : XW P n B w0 md ops rest k ((d, ptr b (o + j.toNat)) :: σ) H) : XW P n B w0 md ops (.op i ⟨some d, .indexAddr t x y, ty, pos, after, g⟩ rest) k σ H :=
  x_pure hk hg rfl hd (fun a w hM ha => by
    simp [execOp, Instr.indexAt, ha.evo hx, ha.evo hy, asIntOf, run_und hT, h0, h1, run_size hI, addr_add, Instr.sureAddr]) h
end
instance tyA : Ty Tryd.prog 93 (.array 4 3) := ⟨by kernel_rfl⟩
/-- what the program's two variables hold -/
structure Laid (H : Heap) : Prop where
  few : Cels H 0 0 [.int .i64 0, .int .i64 4, .int .i64 13, .int .i64 41]
  most : Cels H 1 0 [.int .i64 4, .int .i64 16, .int .i64 48, .int .i64 256]
theorem Laid.keepN {H H' : Heap} (h : Laid H) (k : Keep Non H H') : Laid H' := ⟨h.few.keep k (fun _ h => h), h.most.keep k (fun _ h => h)⟩

theorem shp_fits {kind kids : Int} {H : Heap} (hL : Laid H) (h1 : -9223372036854775808 ≤ kind) (h2 : kind ≤ 9223372036854775807) (h3 : 0 ≤ kids) : Ret Tryd.prog 58 [.int .i64 kind, .int .i64 kids] H (fun v H' => H = H' ∧ ∃ e : Bool, v = .bool e ∧ (e = true ↔ bandC kind kids)) := by
  have f0 : cel H 0 0 = some (.int .i64 0) := hL.few 0 (by simp)
  have f1 : cel H 0 1 = some (.int .i64 4) := hL.few 1 (by simp)
  have f2 : cel H 0 2 = some (.int .i64 13) := hL.few 2 (by simp)
  have f3 : cel H 0 3 = some (.int .i64 41) := hL.few 3 (by simp)
  have m0 : cel H 1 0 = some (.int .i64 4) := hL.most 0 (by simp)
  have m1 : cel H 1 1 = some (.int .i64 16) := hL.most 1 (by simp)
  have m2 : cel H 1 2 = some (.int .i64 48) := hL.most 2 (by simp)
  have m3 : cel H 1 3 = some (.int .i64 256) := hL.most 3 (by simp)
  obtain ⟨a, b, ha, hb, hab⟩ : ∃ a b : Int, (6 ≤ kind → kind < 10 → cel H 0 (kind - 6).toNat = some (.int .i64 a)) ∧ (6 ≤ kind → kind < 10 → cel H 1 (kind - 6).toNat = some (.int .i64 b)) ∧ (6 ≤ kind → kind < 10 → (bandC kind kids ↔ a ≤ kids ∧ kids ≤ b)) := by
    by_cases k6 : kind = 6
    · subst k6; exact ⟨0, 4, fun _ _ => f0, fun _ _ => m0, fun _ _ => by unfold bandC; omega⟩
    by_cases k7 : kind = 7
    · subst k7; exact ⟨4, 16, fun _ _ => f1, fun _ _ => m1, fun _ _ => by unfold bandC; omega⟩
    by_cases k8 : kind = 8
    · subst k8; exact ⟨13, 48, fun _ _ => f2, fun _ _ => m2, fun _ _ => by unfold bandC; omega⟩
    by_cases k9 : kind = 9
    · subst k9; exact ⟨41, 256, fun _ _ => f3, fun _ _ => m3, fun _ _ => by unfold bandC; omega⟩
    exact ⟨0, 0, fun _ _ => by omega, fun _ _ => by omega, fun _ _ => by omega⟩
  by_cases hlow : kind < -9223372036854775802
  · have hw : IntKind.i64.wrap (kind - 6) = kind - 6 + 18446744073709551616 := by
      simp [IntKind.wrap, IntKind.signed, IntKind.bits]; omega
    refine ret_of Tryd.func58 rfl rfl rfl rfl ?_
    intro w0
    refine zrun ?_ ?_
    rw [hw]
    refine zrun ?_ ?_
    refine x_split 10 rfl (fun g1 => ?_) (fun g1 => ?_) <;> (try simp at g1)
    · refine zrun ?_ ?_
      refine x_split 14 rfl (fun g2 => ?_) (fun g2 => ?_) <;> (try simp at g2)
      · omega
      · refine zrun ?_ ?_
        exact cw_ret1 rfl rfl ⟨rfl, _, rfl, (fun e => by cases e), (fun h => by unfold bandC at h; omega)⟩
    · omega
  refine ret_of Tryd.func58 rfl rfl rfl rfl ?_
  intro w0
  refine zrun ?_ ?_
  refine x_split 10 rfl (fun g1 => ?_) (fun g1 => ?_) <;> (try simp at g1)
  · refine zrun ?_ ?_
    refine x_split 14 rfl (fun g2 => ?_) (fun g2 => ?_) <;> (try simp at g2)
    · have hr := hab (by omega) (by omega)
      refine zrun ?_ ?_
      refine x_indexAddrA rfl rfl rfl (by omega) (by omega) rfl trivial ?_
      have e0 : cel H 0 (0 + (kind - 6).toNat) = some (.int .i64 a) := by rw [Nat.zero_add]; exact ha (by omega) (by omega)
      have e1 : cel H 1 (0 + (kind - 6).toNat) = some (.int .i64 b) := by rw [Nat.zero_add]; exact hb (by omega) (by omega)
      refine x_load rfl rfl (hpmt (e0)) rfl trivial ?_
      refine zrun ?_ ?_
      refine x_split 21 rfl (fun g3 => ?_) (fun g3 => ?_) <;> (try simp at g3)
      · refine zrun ?_ ?_
        refine x_indexAddrA rfl rfl rfl (by omega) (by omega) rfl trivial ?_
        refine x_load rfl rfl (hpmt (e1)) rfl trivial ?_
        refine zrun ?_ ?_
        refine cw_ret1 rfl rfl ⟨rfl, _, rfl, ?_⟩
        rw [decide_eq_true_iff, hr]
        exact ⟨fun h => ⟨g3, h⟩, fun h => h.2⟩
      · refine zrun ?_ ?_
        exact cw_ret1 rfl rfl ⟨rfl, _, rfl, (fun e => by cases e), (fun h => by have := (hr.1 h).1; omega)⟩
    · refine zrun ?_ ?_
      exact cw_ret1 rfl rfl ⟨rfl, _, rfl, (fun e => by cases e), (fun h => by unfold bandC at h; omega)⟩
  · refine zrun ?_ ?_
    exact cw_ret1 rfl rfl ⟨rfl, _, rfl, (fun e => by cases e), (fun h => by unfold bandC at h; omega)⟩
theorem Laid.keepS {S : Nat → Prop} {H H' : Heap} (h : Laid H) (k : Keep S H H') (h0 : ¬ S 0) (h1 : ¬ S 1) : Laid H' := ⟨h.few.keep k (fun _ => h0), h.most.keep k (fun _ => h1)⟩
open Classical in
theorem rdR_flat {f : Nat} {l : List Cel} {i : Nat} {c : Cel} (hc : l[i]? = some c) : rdR (f + 1) l i [] = if Leaf c 5 then some ⟨[(c.key, c.val)], i + 1, 1⟩ else if InnerP c ∧ 2 ≤ c.kids + (begR c i).P.length ∧ bandC c.kind c.kids then (kidsX false (fun n => rdR f l n []) l c.key c.kids.toNat (begR c i) (-1)).bind (fun r => endT c r) else none := by
  rw [rdR_some hc, ← kidsR_X]
  have h0 : begins c.key [] = true := begins_iff.2 ⟨c.key, rfl⟩
  have hp : ((begR c i).P.length : Int) = (if c.full then 1 else 0) := by unfold begR; cases c.full <;> rfl
  rw [hp]
  by_cases hk : c.key.length ≤ 65535
  · rw [if_pos ⟨h0, hk⟩]
    by_cases hl : Leaf c 5
    · rw [if_pos hl, if_pos hl]
    · rw [if_neg hl, if_neg hl]
      by_cases hN : NodeR c
      · have hb := hN.band
        have ht := hN.two
        have hb' := hb
        unfold bandC at hb'
        have : InnerP c ∧ 2 ≤ c.kids + (if c.full then 1 else 0) ∧ bandC c.kind c.kids := ⟨⟨hN.at_, hN.byte, hN.pairs, by split at ht <;> omega, by omega, hN.full, hk⟩, ht, hb⟩
        rw [if_pos hN, if_pos this]
      · rw [if_neg hN, if_neg (fun h => hN ⟨h.1.at_, h.1.byte, h.1.pairs, h.1.full, h.2.1, h.2.2⟩)]
  · rw [if_neg (fun e => hk e.2), if_neg (fun e => hk e.key), if_neg (fun e => hk e.1.key)]
theorem Good.good8 {l : List Cel} {i : Nat} {x : PT} (h : Good l i x) (hf : x.P.length + i ≤ x.next) : Good8 l i x := ⟨h.lt, h.le, h.one, h.deep, by have := h.lt; omega⟩

theorem shp_radix {l : List Cel} {vc : Value} {B0 : Nat} (hok : CelsOk l) (hv : l ≠ [] → sb vc < B0) (h2 : 2 ≤ B0) (hkd : ∀ c ∈ l, -9223372036854775808 ≤ c.kind ∧ c.kind ≤ 9223372036854775807) : ∀ (f : Nat) {i : Nat} {H : Heap}, 0 < f → l.length < i + f → i ≤ l.length → CR B0 H vc l → B0 ≤ H.size → Laid H →
    Ret Tryd.prog 42 [.agg [vc].toArray, .int .i64 i] H (PrgO (rdR f l i []) H) := by
  intro f
  induction f with
  | zero =>
    intro i H hf0
    omega
  | succ f ih =>
    intro i H hf0 hf hil hC hB hL
    have sC := hC.sl
    have hll := hok.len
    obtain ⟨R, hR⟩ : ∃ R, R = rdR (f + 1) l i [] := ⟨_, rfl⟩
    rw [← hR]
    refine ret_of Tryd.func42 rfl rfl rfl rfl ?_
    intro w0
    refine zrun ?_ ?_
    refine x_box (cs := [vc]) rfl rfl rfl trivial ?_
    intro H1 hn1
    refine ⟨trivial, ?_⟩
    refine x_alloc rfl rfl trivial ?_
    intro H2 hn2
    refine ⟨trivial, ?_⟩
    have hs1 := hn1.size
    have hs2 := hn2.size
    have hk2 := hn2.old hn1.keep
    have hC2 := CR.keepN hC hk2
    have hBr2 : Blk H2 H.size [vc] := (hn1.blk : Blk H1 H.size [vc]).keep hn2.keep (fun h => h)
    have hBo2 : Blk H2 H1.size zP := hn2.blk
    refine zrun ?_ ?_
    refine x_loads (cs := [vc]) rfl rfl rfl (hpmt (hBr2.cels 0 1 (by simp))) rfl trivial ?_
    refine zrun ?_ ?_
    refine x_call rfl rfl rfl trivial (shp_cell (i := i) hC2 (by omega)) ?_
    rintro _ H3 ⟨hk3, y, c, rfl, hy3, hcd⟩
    refine ⟨trivial, ?_⟩
    have hs3 := hk3.size
    refine zrun ?_ ?_
    refine x_alloc rfl rfl trivial ?_
    intro H4 hn4
    refine ⟨trivial, ?_⟩
    have hs4 := hn4.size
    refine x_stores rfl rfl rfl rfl (CelR.oneC hy3) hn4.blk (by simp [encC]) trivial ?_
    intro H5 hBc5 hk5 hs5
    refine ⟨trivial, ?_⟩
    have hk35 : Keep Non H3 H5 := keep_at hn4.keep hk5 (Nat.le_refl _)
    have hk25 := hk3.non_trans hk35
    have hk05 := hk2.non_trans hk25
    have hy5 := hy3.keepN hk35
    have hC5 := CR.keepN hC hk05
    have hBr5 := hBr2.keep hk25 (fun h => h)
    have hBo5 := hBo2.keep hk25 (fun h => h)
    have hBc5 : Blk H5 H3.size (encC y) := hBc5
    have D := celD_of hBc5 hy5.1
    have sK := hy5.2.1.1.sl
    have sP := hy5.2.2.1.sl
    have cK := sK.cap
    have cP := sP.cap
    have hs05 := hk05.size
    refine zrun ?_ ?_
    cases hc : l[i]? with
    | none =>
      have hz : none = R := by rw [hR, rdR_none hc]
      refine zrun ?_ ?_
      refine x_build (cs := zP) rfl rfl rfl ocp_nil rfl trivial ?_
      refine x_stores rfl rfl rfl rfl (by simp [zP, oneC, Value.oneCell']) (hBo5) (by simp [zP]) trivial ?_
      intro Hz hBz hkz hsz
      refine ⟨trivial, ?_⟩
      refine zrun ?_ ?_
      exact cw_retc2 rfl rfl rfl rfl (hBz.cels 0 3 (by simp [putL, zP])) ⟨(hk05).step hkz (fun z hz (e : z = _) => by omega), .slice none 0 0, 0, 0, [], by rw [← hz]; rfl, PoS.nil _ _, Nat.zero_le _, fun x hx => by rw [← hz] at hx; cases hx⟩
    | some d =>
      have hcd' := hcd d hc
      subst hcd'
      have hcm := List.mem_of_getElem? hc
      have hkind := hkd c hcm
      have hilt := (List.getElem?_eq_some_iff.1 hc).1
      rw [rdR_flat hc] at hR
      refine zrun ?_ ?_
      refine x_loads (cs := encC y) rfl rfl rfl (hpmt (hBc5.cels 0 9 (by simp [encC]))) rfl trivial ?_
      refine zrun ?_ ?_
      refine x_call rfl rfl rfl trivial (shp_plain hy5) ?_
      rintro _ H6 ⟨hk6, e, rfl, he⟩
      refine ⟨trivial, ?_⟩
      have hs6 := hk6.size
      have hk06 := hk05.non_trans hk6
      have hy6 := hy5.keepN hk6
      have hBc6 := hBc5.keep hk6 (fun h => h)
      have hBo6 := hBo5.keep hk6 (fun h => h)
      have hBr6 := hBr5.keep hk6 (fun h => h)
      have D6 := D.keepN hk6
      refine zrun ?_ ?_
      cases e with
      | true =>
        have hLf := he.1 rfl
        rw [if_pos hLf] at hR
        refine zrun ?_ ?_
        refine x_loads (cs := encC y) rfl rfl rfl (hpmt (hBc6.cels 0 9 (by simp [encC]))) rfl trivial ?_
        refine zrun ?_ ?_
        refine x_load rfl rfl (hpmt (D6.d7)) rfl trivial ?_
        refine zrun ?_ ?_
        refine x_call rfl rfl rfl trivial (shp_own hy6 hy6.2.1.1 (by have := hLf.key; omega)) ?_
        rintro _ H7 ⟨hk7, kk, rfl, hO7, hf7⟩
        refine ⟨trivial, ?_⟩
        have hovk := isSl_oneC hO7.sl
        refine zrun ?_ ?_
        refine x_buildSliceS1 (by rfl) rfl rfl (by omega) (by rfl) rfl trivial ?_
        intro H8 hn8
        refine ⟨trivial, ?_⟩
        have hs7 := hk7.size
        have hs8 := hn8.size
        have hk08 := hn8.old (hk06.non_trans hk7)
        have hBo8 := (hBo6.keep hk7 (fun h => h)).keep hn8.keep (fun h => h)
        have hlt7 : 0 < sc kk → sb kk < H7.size := fun hc => hO7.lt hc
        have hV8 : PoS (fun z => H6.size ≤ z) H8 (.slice (some ⟨H7.size, 0, none⟩) 1 1) [(c.key, c.val)] := PoS.one (k := kk) (p := (c.key, c.val)) (Own.new (s := 2) (n := 1) hn8 rfl (by omega)) (fun _ => by show H6.size ≤ H7.size; omega) (hO7.keep hn8.keep (fun _ h => h)) (fun hc => ⟨hf7 hc, fun e => by have := hlt7 hc; have e : sb kk = H7.size := e; omega⟩)
        refine zrun ?_ ?_
        refine x_build (cs := [.slice (some ⟨H7.size, 0, none⟩) 1 1, .int .i64 (i + 1), .int .i64 1]) rfl rfl rfl (ocp_cons rfl (ocp_cons rfl (ocp_cons rfl ocp_nil))) rfl trivial ?_
        refine x_stores rfl rfl rfl rfl (oc_cons rfl (oc_cons rfl (oc_cons rfl oc_nil))) hBo8 (by simp [zP]) trivial ?_
        intro H9 hB9 hk9 hs9
        refine ⟨trivial, ?_⟩
        refine zrun ?_ ?_
        refine cw_retc2 rfl rfl rfl rfl (hB9.cels 0 3 (by simp [putL, zP])) ⟨hk08.step hk9 (fun z hz (e : z = _) => by omega), .slice (some ⟨H7.size, 0, none⟩) 1 1, (i : Int) + 1, 1, [(c.key, c.val)], by rw [hR]; rfl, (hV8.keep hk9 (fun z hz (e : z = _) => by omega)).mono (fun z hz _ => by omega), by simp, fun x hx => ?_⟩
        rw [hR] at hx
        injection hx with hx
        subst hx
        exact ⟨rfl, rfl, rfl⟩
      | false =>
        rw [if_neg (fun h => by cases he.2 h)] at hR
        refine zrun ?_ ?_
        refine x_loads (cs := encC y) rfl rfl rfl (hpmt (hBc6.cels 0 9 (by simp [encC]))) rfl trivial ?_
        refine zrun ?_ ?_
        refine x_call rfl rfl rfl trivial (shp_inner (i := i) hy6 (by omega)) ?_
        rintro _ H7 ⟨hk7, e, v, n, dd, P, rfl, hV7, hPl, het, hef⟩
        refine ⟨trivial, ?_⟩
        have hov := isSl_oneC hV7.ps.sl
        have hs7 := hk7.size
        refine zrun ?_ ?_
        refine x_alloc rfl rfl trivial ?_
        intro H8 hn8
        refine ⟨trivial, ?_⟩
        refine x_stores rfl rfl rfl rfl (oc_cons hov (oc_cons rfl (oc_cons rfl oc_nil))) hn8.blk (by simp) trivial ?_
        intro H9 hB8 hk9 hs9
        refine ⟨trivial, ?_⟩
        have hs8 := hn8.size
        have hk79 : Keep Non H7 H9 := keep_at hn8.keep hk9 (Nat.le_refl _)
        have hk69 := hk7.non_trans hk79
        have hk09 := hk06.non_trans hk69
        have D9 := D6.keepN hk69
        have hV9 := hV7.keepN hk79
        have hBo9 := hBo6.keep hk69 (fun h => h)
        have hBr9 := hBr6.keep hk69 (fun h => h)
        have b0 : cel H9 H7.size 0 = some v := by rw [hB8.cel]; rfl
        have sV := hV9.ps.sl
        have hkids := hok.kids c hcm
        have hL9 := hL.keepN hk09
        refine zrunc ?_ ?_
        refine cw_cut (fun e : Bool => [(1, .int .i64 i), (2, ptr H.size 0), (4, ptr H1.size 0), (5, .bool false), (6, ptr H3.size 0), (8, ptr H7.size 0), (52, .bool e)]) (fun e H' => H9 = H' ∧ (e = true → ¬ (InnerP c ∧ 2 ≤ c.kids + (begR c i).P.length ∧ bandC c.kind c.kids)) ∧ (e = false → InnerP c ∧ 2 ≤ c.kids + (begR c i).P.length ∧ bandC c.kind c.kids)) ?_ ?_
        · refine zrun ?_ ?_
          cases e with
          | false =>
            refine zrun ?_ ?_
            exact nw_meet true (by repeat (first | exact True.intro | refine ⟨rfl, ?_⟩)) ⟨rfl, (fun _ h => hef rfl h.1), (fun e => by cases e)⟩
          | true =>
            obtain ⟨hI, w1, w2, w3⟩ := het rfl
            have hk0 := hI.kids0
            have hk1 := hI.kids
            subst w3
            refine zrun ?_ ?_
            refine x_load rfl rfl (hpmt (D9.d3)) rfl trivial ?_
            refine zrun ?_ ?_
            refine x_load rfl rfl (hpmt (b0)) rfl trivial ?_
            refine zrun ?_ ?_
            refine x_split 45 rfl (fun g1 => ?_) (fun g1 => ?_) <;> (try simp at g1)
            · refine zrun ?_ ?_
              exact nw_meet true (by repeat (first | exact True.intro | refine ⟨rfl, ?_⟩)) ⟨rfl, (fun _ h => by have := h.2.1; omega), (fun e => by cases e)⟩
            · refine zrun ?_ ?_
              refine x_load rfl rfl (hpmt (D9.d0)) rfl trivial ?_
              refine zrun ?_ ?_
              refine x_load rfl rfl (hpmt (D9.d3)) rfl trivial ?_
              refine zrun ?_ ?_
              refine x_call rfl rfl rfl trivial (shp_fits hL9 hkind.1 hkind.2 hk0) ?_
              rintro _ _ ⟨rfl, e, rfl, he⟩
              refine ⟨trivial, ?_⟩
              refine zrun ?_ ?_
              refine nw_meet _ (by repeat (first | exact True.intro | refine ⟨rfl, ?_⟩)) ⟨rfl, (fun e1 h => ?_), (fun e1 => ?_)⟩
              · rw [he.2 h.2.2] at e1; cases e1
              · exact ⟨hI, by omega, he.1 (by simpa using e1)⟩
        rintro e1 _ ⟨rfl, ht, hfl⟩
        cases e1 with
        | true =>
          rw [if_neg (ht rfl)] at hR
          have hz : none = R := hR.symm
          refine zrun ?_ ?_
          refine x_build (cs := zP) rfl rfl rfl ocp_nil rfl trivial ?_
          refine x_stores rfl rfl rfl rfl (by simp [zP, oneC, Value.oneCell']) (hBo9) (by simp [zP]) trivial ?_
          intro Hz hBz hkz hsz
          refine ⟨trivial, ?_⟩
          refine zrun ?_ ?_
          exact cw_retc2 rfl rfl rfl rfl (hBz.cels 0 3 (by simp [putL, zP])) ⟨(hk09).step hkz (fun z hz (e : z = _) => by omega), .slice none 0 0, 0, 0, [], by rw [← hz]; rfl, PoS.nil _ _, Nat.zero_le _, fun x hx => by rw [← hz] at hx; cases hx⟩
        | false =>
          have hN := hfl rfl
          rw [if_pos hN] at hR
          obtain ⟨hI, htwo, hband⟩ := hN
          obtain ⟨e2, w1, w2, w3⟩ : e = true ∧ n = ((i + 1 : Nat) : Int) ∧ dd = 1 ∧ P = (begR c i).P := by
            cases e with
            | true => exact ⟨rfl, (het rfl).2⟩
            | false => exact absurd hI (hef rfl)
          subst w1 w2 w3
          have hkn := hI.kids0
          have hkx := hI.kids
          obtain ⟨N, hNN⟩ : ∃ N, N = c.kids.toNat := ⟨_, rfl⟩
          have hNk : c.kids = (N : Int) := by omega
          rw [← hNN] at hR
          have hp8 : Part8 l i (begR c i) := ⟨Nat.lt_succ_self i, hilt, by show 0 + i + 1 ≤ i + 1; omega, by show (begR c i).P.length + 8 * i ≤ 8 * (i + 1); omega⟩
          have hK9 := D9.d7
          have hVq : PoS (fun z => H6.size ≤ z ∧ z ≠ H7.size) H9 v (begR c i).P := (hV7.mono (fun z hz hl => ⟨hz, by omega⟩)).keepN hk79
          have hKb : Bs H9 y.2.1 c.key := (hy6.keepN hk69).2.1.1
          refine zrun ?_ ?_
          refine x_loads (cs := [vc]) rfl rfl rfl (hpmt (hBr9.cels 0 1 (by simp))) rfl trivial ?_
          refine x_loads (cs := [v, .int .i64 ((i + 1 : Nat) : Int), .int .i64 1]) rfl rfl rfl (hpmt (hB8.cels 0 3 (by simp [putL]))) rfl trivial ?_
          refine zrun ?_ ?_
          refine x_load rfl rfl (hpmt (D9.d3)) rfl trivial ?_
          refine zrun ?_ ?_
          refine x_load rfl rfl (hpmt (D9.d7)) rfl trivial ?_
          refine zrun ?_ ?_
          refine x_loads (cs := [vc]) rfl rfl rfl (hpmt (hBr9.cels 0 1 (by simp))) rfl trivial ?_
          refine x_makeFunc (fv := [.agg [vc].toArray]) (cv := []) rfl rfl rfl rfl trivial ?_
          rw [hNk]
          refine x_call rfl rfl rfl trivial (shp_children (B0 := B0) (Bc := H6.size) (S0 := fun z => H6.size ≤ z ∧ z ≠ H7.size) (exact := false) (k := c.key) (rd := fun n => rdR f l n []) (r0 := begR c i) (m := N) (i := i) hok (CR.keepN hC hk09) hv (by omega) (by omega) hKb (hy6.2.1.2) (fun z hz => hz.1) (fun z hz => ⟨by omega, by omega⟩) hVq hp8 (by omega) (fun n H1 hn hnl hk1 hC1 hB1 => ih (by omega) (by omega) hnl hC1 hB1 (hL9.keepS hk1 (fun e => by have := hV9.fresh e.2; omega) (fun e => by have := hV9.fresh e.2; omega))) (fun n x hx => (rdR_good f hx).1.good8 (rdR_good f hx).2)) ?_
          rintro _ H10 ⟨hk10, v2, n2, d2, P2, rfl, hV10, hPl2, hx2⟩
          refine ⟨trivial, ?_⟩
          generalize kidsX false (fun n => rdR f l n []) l c.key N (begR c i) (-1) = res at hR hx2 ⊢
          have hov2 := isSl_oneC hV10.ps.sl
          have hltv : 0 < sc v → sb v < H7.size := fun hc => let ⟨_, _, o, _⟩ := hV7.row; o.lt hc
          have hoff : ∀ z, z < H6.size → ¬ (z = sb v ∧ 0 < sc v) := fun z hz e => by have := hV9.fresh e.2; omega
          have hoff8 : ¬ (H7.size = sb v ∧ 0 < sc v) := fun e => by have := hltv e.2; omega
          have hk010 : Keep Non H H10 := hk09.old hk10 (fun z hz e => hoff z (by omega) e)
          have hBo10 := hBo9.keep hk10 (hoff _ (by omega))
          have hB810 := hB8.keep hk10 hoff8
          have d2' := hk10.cel D9.d2 (hoff _ (by omega))
          have hs10 := hk10.size
          refine zrun ?_ ?_
          refine x_stores rfl rfl rfl rfl (oc_cons hov2 (oc_cons rfl (oc_cons rfl oc_nil))) hB810 (by simp [putL]) trivial ?_
          intro H11 hB811 hk11 hs11
          refine ⟨trivial, ?_⟩
          have hB811 : Blk H11 H7.size [v2, .int .i64 n2, .int .i64 d2] := hB811
          have hk011 : Keep Non H H11 := hk010.old hk11 (fun z hz (e : z = _) => by omega)
          have hBo11 := hBo10.keep hk11 (fun (e : _ = _) => by omega)
          have d2'' := hk11.cel d2' (fun (e : _ = _) => by omega)
          have hV11 : PoS (fun z => H6.size ≤ z) H11 v2 P2 := (hV10.keep hk11 (fun z hz e => hz.2 e)).mono (fun z hz _ => hz.1)
          have b0' : cel H11 H7.size 0 = some v2 := by rw [hB811.cel]; rfl
          have sV2 := hV11.ps.sl
          have hkr := Keep.refl (fun z => z = H1.size) H11
          refine zrun ?_ ?_
          cases res with
          | none =>
            have hz : R = none := hR
            refine zrunc ?_ ?_
            refine cw_held (fun _ => Keep (fun z => z = H1.size) H11) ⟨[10], [(0, 0), (4, 0), (6, 0)]⟩ (.op 0 (.op 1 (.op 2 (.op 3 (.op 4 (.op 5 (.op 6 (.op 7 (.op 8 (.op 9 (.op 10 (.op 11 (.nil))))))))))))) panicOk_body mixed (by kernel_rfl) ?_
            refine zhrun ?_ ?_
            refine x_loads (cs := [v2, .int .i64 n2, .int .i64 d2]) rfl rfl rfl (hpmk rfl (fun _ hk => (hB811.cels 0 3 (by simp)).keep hk (fun _ (e : _ = _) => by omega))) rfl (okq_load rfl rfl (by assumption)) ?_
            refine zhrun ?_ ?_
            refine x_skip (okq_load rfl rfl (by assumption)) rfl rfl rfl ?_
            refine zhrun ?_ ?_
            refine x_skip (okq_load rfl rfl (by assumption)) rfl rfl rfl ?_
            refine zhrun ?_ ?_
            refine x_stores rfl rfl rfl rfl (oc_cons hov2 (oc_cons rfl (oc_cons rfl oc_nil))) hBo11 (by simp [zP]) ⟨rfl, rfl⟩ ?_
            intro H12 hB12 hk12 hs12
            refine ⟨okm_keep hk12 (fun _ _ e => e), ?_⟩
            refine zhrun ?_ ?_
            refine zrun ?_ ?_
            refine cw_retc2 rfl rfl rfl rfl (hB12.cels 0 3 (by simp [putL, zP])) ⟨hk011.step hk12 (fun z hz (e : z = _) => by omega), v2, n2, d2, P2, by rw [hz]; rfl, (hV11.keep hk12 (fun z hz (e : z = _) => by omega)).mono (fun z hz _ => by omega), hPl2, fun x hx => by rw [hz] at hx; cases hx⟩
          | some r =>
            obtain ⟨w1, w2, w3⟩ := hx2 r rfl
            subst w1 w2 w3
            have hRe : R = endT c r := hR
            refine zrunc ?_ ?_
            refine cw_held (fun _ => Keep (fun z => z = H1.size) H11) ⟨[10], [(0, 0), (4, 0), (6, 0)]⟩ (.op 0 (.op 1 (.op 2 (.op 3 (.op 4 (.op 5 (.op 6 (.op 7 (.op 8 (.op 9 (.op 10 (.op 11 (.nil))))))))))))) panicOk_body mixed (by kernel_rfl) ?_
            refine zhrun ?_ ?_
            refine x_loads (cs := [v2, .int .i64 r.next, .int .i64 ((r.deep : Int) + 1)]) rfl rfl rfl (hpmk rfl (fun _ hk => (hB811.cels 0 3 (by simp)).keep hk (fun _ (e : _ = _) => by omega))) rfl (okq_load rfl rfl (by assumption)) ?_
            refine zhrun ?_ ?_
            refine x_load rfl rfl (hpmk rfl (fun _ hk => hk.cel d2'' (fun (e : _ = _) => by omega))) rfl (okq_load rfl rfl (by assumption)) ?_
            refine zhrun ?_ ?_
            refine x_load rfl rfl (hpmk rfl (fun _ hk => hk.cel b0' (fun (e : _ = _) => by omega))) rfl (okq_load rfl rfl (by assumption)) ?_
            refine zhrun ?_ ?_
            refine x_stores rfl rfl rfl rfl (oc_cons hov2 (oc_cons rfl (oc_cons rfl oc_nil))) hBo11 (by simp [zP]) ⟨rfl, rfl⟩ ?_
            intro H12 hB12 hk12 hs12
            refine ⟨okm_keep hk12 (fun _ _ e => e), ?_⟩
            refine zhrun ?_ ?_
            refine zrun ?_ ?_
            refine cw_retc2 rfl rfl rfl rfl (hB12.cels 0 3 (by simp [putL, zP])) ⟨hk011.step hk12 (fun z hz (e : z = _) => by omega), v2, (r.next : Int), (r.deep : Int) + 1, r.P, ?_, (hV11.keep hk12 (fun z hz (e : z = _) => by omega)).mono (fun z hz _ => by omega), hPl2, fun x hx => ?_⟩
            · rw [hRe]
              unfold endT
              by_cases hcn : c.count = (r.P.length : Int)
              · rw [if_pos hcn, show (c.count == (r.P.length : Int)) = true from by simpa using hcn]; rfl
              · rw [if_neg hcn, show (c.count == (r.P.length : Int)) = false from by simpa using hcn]; rfl
            · rw [hRe] at hx
              unfold endT at hx
              split at hx
              · injection hx with hx
                subst hx
                exact ⟨rfl, rfl, rfl⟩
              · cases hx
end Go.Proofs.YtkdmcbacofafpaaDoor.X
