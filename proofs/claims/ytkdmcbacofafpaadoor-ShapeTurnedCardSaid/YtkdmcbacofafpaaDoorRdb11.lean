/- Chapter 11's document: what it reads of the cells of a burst trie. -/
import Derived.Test.YtkdmcbacofafpaaDoorC11
import Derived.Test.YtkdmcbacofafpaaDoorBys
namespace Go.Proofs.YtkdmcbacofafpaaDoor.X
open Go Go.Proofs
set_option linter.unusedVariables false
set_option linter.unusedSimpArgs false
set_option maxRecDepth 10000
set_option maxHeartbeats 4000000

theorem ref_Mays {va : Value} {l : List Pr} {H : Heap} (hA : Ps H va l) : Ret Tryd.prog 49 [va] H (fun v H' => H = H' ∧ v = .bool (!longs l)) := by
  have sA := hA.sl
  have cA := sA.cap
  refine ret_of Tryd.func49 rfl rfl rfl rfl ?_
  intro w0
  refine zrun ?_ ?_
  refine cw_loop (fun j : Nat => [(0, va), (3, .int .i64 j)]) (fun j H' => H = H' ∧ j ≤ l.length ∧ longs (l.take j) = false) (fun j => l.length - j) 0 (by repeat (first | exact True.intro | refine ⟨rfl, ?_⟩)) ⟨rfl, Nat.zero_le _, by simp [longs]⟩ ?_
  rintro j _ ⟨rfl, hj, hlg⟩
  refine zrun ?_ ?_
  refine cw_cond rfl (fun h1 => ?_) (fun h1 => ?_) <;> (try simp at h1)
  · obtain ⟨p, hp⟩ := getp (l := l) h1
    obtain ⟨kk, a1, a2, a3⟩ := hA.at_ j p hp
    refine zrun ?_ ?_
    refine x_load rfl rfl (hpmt (a1)) rfl trivial ?_
    refine zrun ?_ ?_
    refine x_call rfl rfl rfl trivial (ref_May a3.sl) ?_
    rintro _ _ ⟨rfl, rfl⟩
    refine ⟨trivial, ?_⟩
    refine zrun ?_ ?_
    refine cw_cond rfl (fun h2 => ?_) (fun h2 => ?_) <;> (try simp at h2)
    · refine zrun ?_ ?_
      refine cw_ret1 rfl rfl ⟨rfl, ?_⟩
      rw [longs_of (List.mem_of_getElem? hp) h2]
      rfl
    · refine zrun ?_ ?_
      refine nw_round (j + 1) (by repeat (first | exact True.intro | refine ⟨rfl, ?_⟩)) ⟨rfl, by omega, ?_⟩ (by omega)
      rw [longs_take hp, hlg, decide_eq_false (by omega)]
      rfl
  · have hjl : j = l.length := by omega
    subst hjl
    rw [List.take_length] at hlg
    refine zrun ?_ ?_
    refine cw_ret1 rfl rfl ⟨rfl, ?_⟩
    rw [hlg]
    rfl

/-- cells that may be read, all of it ahead of B0 -/
abbrev CR (B0 : Nat) (H : Heap) (v : Value) (l : List Cel) : Prop := Rd encC (CelR (fun z => z < B0) H) H v l
theorem CR.keepN {B0 : Nat} {H H' : Heap} {v : Value} {l : List Cel} (h : CR B0 H v l) (k : Keep Non H H') : CR B0 H' v l :=
  (Rd.keepN h k).mono fun _ _ hc => hc.step k (fun _ _ h => h) (fun _ h => h)
/-- pairs that were read: a row of the call's own, keys of the cells' -/
structure RdV (B0 B : Nat) (H : Heap) (v : Value) (P : List Pr) : Prop where
  row : ∃ q, Own 2 H v P.length (pcs q) ∧ Pk (KSt (fun z => z < B0) H) q P
  fresh : 0 < sc v → B ≤ sb v
theorem RdV.nil (B0 B : Nat) (H : Heap) : RdV B0 B H (.slice none 0 0) [] := ⟨⟨[], Own.nil 2 H, Pk.nil _⟩, fun h => by simp [sc] at h⟩
theorem RdV.keep {S : Nat → Prop} {B0 B : Nat} {H H' : Heap} {v : Value} {P : List Pr} (h : RdV B0 B H v P) (k : Keep S H H') (h1 : 0 < sc v → ¬ S (sb v)) (h2 : ∀ z, z < B0 → ¬ S z) : RdV B0 B H' v P := by
  obtain ⟨q, a, b⟩ := h.row
  exact ⟨⟨q, a.keep k h1, b.mono fun _ _ hb => hb.step k h2 (fun _ h => h)⟩, h.fresh⟩
theorem RdV.keepN {B0 B : Nat} {H H' : Heap} {v : Value} {P : List Pr} (h : RdV B0 B H v P) (k : Keep Non H H') : RdV B0 B H' v P := h.keep k (fun _ h => h) (fun _ _ h => h)
theorem RdV.ps {B0 B : Nat} {H : Heap} {v : Value} {P : List Pr} (h : RdV B0 B H v P) : Ps H v P := by
  obtain ⟨q, a, b⟩ := h.row
  exact ⟨a.sl, q, b.mono fun _ _ hb => hb.1, a.cels⟩
theorem RdV.mono {B0 B B' : Nat} {H : Heap} {v : Value} {P : List Pr} (h : RdV B0 B H v P) (hb : B' ≤ B) : RdV B0 B' H v P := ⟨h.row, fun hc => Nat.le_trans hb (h.fresh hc)⟩
/-- what a call that reads answers -/
def ReadV (B0 : Nat) (R : RD) (H : Heap) (r : Value) (H' : Heap) : Prop := Keep Non H H' ∧ ∃ v, r = .agg [v, .int .i64 R.next, .int .i64 R.deep, .bool R.ok].toArray ∧ RdV B0 H.size H' v R.P
def zR : List Value := [.slice none 0 0, .int .i64 0, .int .i64 0, .bool false]

theorem ref11_Burst {l : List Cel} {vc : Value} {B0 : Nat} (hll : l.length ≤ 1000000) (hml : manys l ≤ 1000000) : ∀ (f : Nat) {i : Nat} {w : Bytes} {vw : Value} {H : Heap}, 0 < f → l.length < i + f → w.length ≤ i → CR B0 H vc l → Bs H vw w → B0 ≤ H.size →
    Ret Tryd.prog 35 [vc, .int .i64 i, vw] H (ReadV B0 (readB f l i w) H) := by
  intro f
  induction f with
  | zero =>
    intro i w vw H hf0 hf hwi hC hW hB
    omega
  | succ f ih =>
    intro i w vw H hf0 hf hwi hC hW hB
    have sC := hC.sl
    have cC := sC.cap
    have sW := hW.sl
    obtain ⟨R, hR⟩ : ∃ R, R = readB (f + 1) l i w := ⟨_, rfl⟩
    rw [← hR]
    refine ret_of Tryd.func35 rfl rfl rfl rfl ?_
    intro w0
    refine zrun ?_ ?_
    refine x_alloc rfl rfl trivial ?_
    intro H1 hn1
    refine ⟨trivial, ?_⟩
    have hC1 := CR.keepN hC hn1.keep
    have hW1 := hW.keepN hn1.keep
    have hB6 : Blk H1 H.size zR := hn1.blk
    have hs1 := hn1.size
    have hk1 := hn1.keep
    refine zrunc ?_ ?_
    refine cw_cut (fun e : Bool => [(0, vc), (1, .int .i64 i), (2, vw), (6, ptr H.size 0), (45, .bool e)]) (fun e H' => H1 = H' ∧ (e = true → R = {}) ∧ (e = false → ∃ c, l[i]? = some c ∧ okC c w)) ?_ ?_
    · refine cw_quiet mixed (by kernel_rfl) ?_
      refine zrun ?_ ?_
      refine x_split 19 rfl (fun h1 => ?_) (fun h1 => ?_) <;> (try simp at h1)
      · have hn : l[i]? = none := List.getElem?_eq_none (by omega)
        refine zrun ?_ ?_
        exact nw_meet true (by repeat (first | exact True.intro | refine ⟨rfl, ?_⟩)) ⟨rfl, fun _ => by rw [hR]; unfold readB; rw [hn], fun e => by cases e⟩
      · obtain ⟨c, hc⟩ : ∃ c, l[i]? = some c := ⟨_, List.getElem?_eq_getElem (by omega)⟩
        obtain ⟨y, hy, hcel⟩ := Rd.cel hC1 encC_len hc
        have hyc := hy.1
        have q1 : cel H1 (sb vc) (so vc + i * 9 + 1) = some (.int .i64 c.at_) := by rw [hcel 1 (by omega), ← hyc]; rfl
        have q4 : cel H1 (sb vc) (so vc + i * 9 + 4) = some (kb c.byte) := by rw [hcel 4 (by omega), ← hyc]; rfl
        have q7 : cel H1 (sb vc) (so vc + i * 9 + 7) = some y.2.1 := by rw [hcel 7 (by omega)]; rfl
        have hbad : ¬ okC c w → R = {} := fun h => by rw [hR]; unfold readB; rw [hc]; simp only; rw [if_neg h]
        refine zrun ?_ ?_
        refine x_load rfl rfl (hpmt (q7)) rfl trivial ?_
        refine x_tostr rfl rfl (hpmt hy.2.1.1) rfl trivial ?_
        refine zrun ?_ ?_
        refine x_tostr rfl rfl (hpmt hW1) rfl trivial ?_
        refine x_sneq rfl rfl rfl rfl trivial ?_
        rw [str_list, str_list]
        refine zrun ?_ ?_
        refine x_split 30 rfl (fun h2 => ?_) (fun h2 => ?_) <;> (try simp at h2)
        · refine zrun ?_ ?_
          exact nw_meet true (by repeat (first | exact True.intro | refine ⟨rfl, ?_⟩)) ⟨rfl, fun _ => hbad (fun e => h2 e.1), fun e => by cases e⟩
        · refine zrun ?_ ?_
          refine x_load rfl rfl (hpmt (q1)) rfl trivial ?_
          refine zrun ?_ ?_
          refine x_split 38 rfl (fun h3 => ?_) (fun h3 => ?_) <;> (try simp at h3)
          · refine zrun ?_ ?_
            exact nw_meet true (by repeat (first | exact True.intro | refine ⟨rfl, ?_⟩)) ⟨rfl, fun _ => hbad (fun e => h3 e.2.1), fun e => by cases e⟩
          · refine zrun ?_ ?_
            refine x_load rfl rfl (hpmt (q4)) rfl trivial ?_
            refine zrun ?_ ?_
            refine nw_meet _ (by repeat (first | exact True.intro | refine ⟨rfl, ?_⟩)) ⟨rfl, fun e => hbad fun e' => ?_, fun e => ⟨c, hc, h2, h3, ?_⟩⟩
            · rw [e'.2.2] at e; simp at e
            · simp at e
              exact UInt8.toNat_inj.1 (by simpa using e)
    rintro e _ ⟨rfl, ht, hfl⟩
    cases e with
    | true =>
      have hz := ht rfl
      refine zrun ?_ ?_
      refine x_build (cs := [.slice none 0 0, .int .i64 0, .int .i64 0, .bool false]) rfl rfl rfl ocp_nil rfl trivial ?_
      refine x_stores rfl rfl rfl rfl (by simp [oneC, Value.oneCell']) (hB6) (by simp [zR]) trivial ?_
      intro Hz hBz hkz hsz
      refine ⟨trivial, ?_⟩
      refine zrun ?_ ?_
      exact cw_retc rfl rfl rfl (hBz.cels 0 4 (by simp [putL, zR])) ⟨keep_at (hk1) hkz (Nat.le_refl _), .slice none 0 0, by rw [hz]; rfl, by rw [hz]; exact RdV.nil _ _ _⟩
    | false =>
      obtain ⟨c, hc, hkey, hat, hby⟩ := hfl rfl
      obtain ⟨y, hy, hcels⟩ := Rd.cels hC1 encC_len hc
      have hyc := hy.1
      have hilt := (List.getElem?_eq_some_iff.1 hc).1
      refine zrun ?_ ?_
      refine x_loads (cs := encC y) rfl rfl rfl (hpmt hcels) rfl trivial ?_
      refine x_alloc rfl rfl trivial ?_
      intro H2 hn2
      refine ⟨trivial, ?_⟩
      refine x_stores rfl rfl rfl rfl (CelR.oneC hy) hn2.blk (by simp [encC]) trivial ?_
      intro H3 hB7 hk3 hs3
      refine ⟨trivial, ?_⟩
      have hs2 := hn2.size
      have hk13 : Keep Non H1 H3 := keep_at hn2.keep hk3 (Nat.le_refl _)
      have hk03 := hk1.non_trans hk13
      have hC3 := CR.keepN hC hk03
      have hW3 := hW.keepN hk03
      have hB63 : Blk H3 H.size zR := hB6.keep hk13 (fun h => h)
      have hy3 : CelR (fun z => z < B0) H3 y c := hy.step hk13 (fun _ _ h => h) (fun _ h => h)
      have hB73 : Blk H3 H1.size (encC y) := hB7
      have d0 : cel H3 H1.size 0 = some (.int .i64 c.kind) := by rw [hB73.cel, ← hyc]; rfl
      have d2 : cel H3 H1.size 2 = some (.int .i64 c.count) := by rw [hB73.cel, ← hyc]; rfl
      have d3 : cel H3 H1.size 3 = some (.int .i64 c.kids) := by rw [hB73.cel, ← hyc]; rfl
      have d5 : cel H3 H1.size 5 = some (.bool c.full) := by rw [hB73.cel, ← hyc]; rfl
      have d6 : cel H3 H1.size 6 = some (.int .u64 c.val) := by rw [hB73.cel, ← hyc]; rfl
      have d7 : cel H3 H1.size 7 = some y.2.1 := by rw [hB73.cel]; rfl
      have d8 : cel H3 H1.size 8 = some y.2.2 := by rw [hB73.cel]; rfl
      have hK : Bs H3 y.2.1 c.key := hy3.2.1.1
      have hP3 : Ps H3 y.2.2 c.pairs := hy3.2.2.1.ps (fun _ _ h => h.1)
      have sK := hK.sl
      have sP := hP3.sl
      have cP := sP.cap
      have cK := sK.cap
      have hmc := manys_take hc
      have hmle := manys_le l (i + 1)
      have hcm : c.many = c.pairs.length + (if c.full then 1 else 0) := rfl
      have hRc : R = (if c.kind = 11 then ⟨c.pairs, i + 1, 1, okB c w⟩ else if okN c then nodeB (readB f l) l c i w else {}) := by
        rw [hR]; unfold readB; rw [hc]; simp only; rw [if_pos ⟨hkey, hat, hby⟩]
      refine zrun ?_ ?_
      refine x_load rfl rfl (hpmt (d0)) rfl trivial ?_
      refine zrun ?_ ?_
      refine cw_cond rfl (fun hk11 => ?_) (fun hk11 => ?_) <;> (try simp at hk11)
      · rw [if_pos hk11] at hRc
        refine zrun ?_ ?_
        refine x_load rfl rfl (hpmt (d8)) rfl trivial ?_
        refine zrunc ?_ ?_
        refine cw_cut (fun e : Bool => [(0, vc), (1, .int .i64 i), (2, vw), (6, ptr H.size 0), (7, ptr H1.size 0), (8, .int .i64 c.pairs.length), (9, .bool e)]) (fun e H' => H3 = H' ∧ e = okS c) ?_ ?_
        · refine zrun ?_ ?_
          refine x_load rfl rfl (hpmt (d5)) rfl trivial ?_
          refine zrun ?_ ?_
          refine x_split 60 rfl (fun g0 => ?_) (fun g0 => ?_) <;> (try simp at g0)
          · refine zrun ?_ ?_
            refine x_load rfl rfl (hpmt (d6)) rfl trivial ?_
            refine zrun ?_ ?_
            refine x_split 65 rfl (fun g1 => ?_) (fun g1 => ?_) <;> (try simp at g1)
            · refine zrun ?_ ?_
              refine x_split 69 rfl (fun g2 => ?_) (fun g2 => ?_) <;> (try simp at g2)
              · refine zrun ?_ ?_
                refine x_split 73 rfl (fun g3 => ?_) (fun g3 => ?_) <;> (try simp at g3)
                · refine zrun ?_ ?_
                  refine x_load rfl rfl (hpmt (d3)) rfl trivial ?_
                  refine zrun ?_ ?_
                  refine x_split 79 rfl (fun g4 => ?_) (fun g4 => ?_) <;> (try simp at g4)
                  · refine zrun ?_ ?_
                    refine x_load rfl rfl (hpmt (d2)) rfl trivial ?_
                    refine zrun ?_ ?_
                    refine x_split 85 rfl (fun g5 => ?_) (fun g5 => ?_) <;> (try simp at g5)
                    · refine zrun ?_ ?_
                      refine x_load rfl rfl (hpmt (d8)) rfl trivial ?_
                      refine zrun ?_ ?_
                      refine x_call rfl rfl rfl trivial (ref_Rises hP3) ?_
                      rintro _ _ ⟨rfl, rfl⟩
                      refine ⟨trivial, ?_⟩
                      refine zrun ?_ ?_
                      refine x_split 90 rfl (fun g6 => ?_) (fun g6 => ?_) <;> (try simp at g6)
                      · refine zrun ?_ ?_
                        refine x_load rfl rfl (hpmt (d8)) rfl trivial ?_
                        refine zrun ?_ ?_
                        refine x_call rfl rfl rfl trivial (ref_Mays hP3) ?_
                        rintro _ _ ⟨rfl, rfl⟩
                        refine ⟨trivial, ?_⟩
                        refine zrun ?_ ?_
                        refine nw_meet (!longs c.pairs) (by repeat (first | exact True.intro | refine ⟨rfl, ?_⟩)) ⟨rfl, ?_⟩
                        cases g7 : longs c.pairs with
                        | true => exact (okS_no fun h => by rw [h.may] at g7; cases g7).symm
                        | false => exact (okS_yes ⟨by simpa using g0, by simpa using g1, by omega, by omega, by simpa using g4, by simpa using g5, g6, g7⟩).symm
                      · refine zrun ?_ ?_
                        exact nw_meet _ (by repeat (first | exact True.intro | refine ⟨rfl, ?_⟩)) ⟨rfl, (okS_no fun h => by obtain ⟨a0, a1, a2, a3, a4, a5, a6, a7⟩ := h; first | omega | simp_all).symm⟩
                    · refine zrun ?_ ?_
                      exact nw_meet _ (by repeat (first | exact True.intro | refine ⟨rfl, ?_⟩)) ⟨rfl, (okS_no fun h => by obtain ⟨a0, a1, a2, a3, a4, a5, a6, a7⟩ := h; first | omega | simp_all).symm⟩
                  · refine zrun ?_ ?_
                    exact nw_meet _ (by repeat (first | exact True.intro | refine ⟨rfl, ?_⟩)) ⟨rfl, (okS_no fun h => by obtain ⟨a0, a1, a2, a3, a4, a5, a6, a7⟩ := h; first | omega | simp_all).symm⟩
                · refine zrun ?_ ?_
                  exact nw_meet _ (by repeat (first | exact True.intro | refine ⟨rfl, ?_⟩)) ⟨rfl, (okS_no fun h => by obtain ⟨a0, a1, a2, a3, a4, a5, a6, a7⟩ := h; first | omega | simp_all).symm⟩
              · refine zrun ?_ ?_
                exact nw_meet _ (by repeat (first | exact True.intro | refine ⟨rfl, ?_⟩)) ⟨rfl, (okS_no fun h => by obtain ⟨a0, a1, a2, a3, a4, a5, a6, a7⟩ := h; first | omega | simp_all).symm⟩
            · refine zrun ?_ ?_
              exact nw_meet _ (by repeat (first | exact True.intro | refine ⟨rfl, ?_⟩)) ⟨rfl, (okS_no fun h => by obtain ⟨a0, a1, a2, a3, a4, a5, a6, a7⟩ := h; first | omega | simp_all).symm⟩
          · refine zrun ?_ ?_
            exact nw_meet _ (by repeat (first | exact True.intro | refine ⟨rfl, ?_⟩)) ⟨rfl, (okS_no fun h => by obtain ⟨a0, a1, a2, a3, a4, a5, a6, a7⟩ := h; first | omega | simp_all).symm⟩
        rintro e _ ⟨rfl, he⟩
        refine zrun ?_ ?_
        refine cw_loop (fun s : Nat × Bool => [(0, vc), (1, .int .i64 i), (2, vw), (6, ptr H.size 0), (7, ptr H1.size 0), (8, .int .i64 c.pairs.length), (9, .bool s.2), (10, .int .i64 s.1)]) (fun s H' => H3 = H' ∧ s.1 ≤ c.pairs.length ∧ s.2 = (e && (c.pairs.take s.1).all fun p => begins p.1 w)) (fun s => c.pairs.length - s.1) (0, e) (by repeat (first | exact True.intro | refine ⟨rfl, ?_⟩)) ⟨rfl, Nat.zero_le _, by simp⟩ ?_
        rintro ⟨k, e2⟩ _ ⟨rfl, hk, he2⟩
        simp only at hk he2 ⊢
        refine zrun ?_ ?_
        refine cw_cond rfl (fun h5 => ?_) (fun h5 => ?_) <;> (try simp at h5)
        · obtain ⟨p, hp⟩ := getp (l := c.pairs) h5
          obtain ⟨kk, a1, a2, a3⟩ := hP3.at_ k p hp
          have hnx : (c.pairs.take (k + 1)).all (fun p => begins p.1 w) = ((c.pairs.take k).all (fun p => begins p.1 w) && begins p.1 w) := by rw [List.take_add_one, hp]; simp
          refine zrun ?_ ?_
          refine x_split 101 rfl (fun h6 => ?_) (fun h6 => ?_) <;> (try simp at h6)
          · refine zrun ?_ ?_
            refine x_load rfl rfl (hpmt (d8)) rfl trivial ?_
            refine zrun ?_ ?_
            refine x_load rfl rfl (hpmt (a1)) rfl trivial ?_
            refine zrun ?_ ?_
            refine x_call rfl rfl rfl trivial (ref_Begins a3 hW3) ?_
            rintro _ _ ⟨rfl, rfl⟩
            refine ⟨trivial, ?_⟩
            refine zrun ?_ ?_
            refine nw_round (k + 1, begins p.1 w) (by repeat (first | exact True.intro | refine ⟨rfl, ?_⟩)) ⟨rfl, by simp only; omega, ?_⟩ (by simp only; omega)
            simp only
            rw [hnx, ← Bool.and_assoc, ← he2, h6, Bool.true_and]
          · refine zrun ?_ ?_
            refine nw_round (k + 1, false) (by repeat (first | exact True.intro | refine ⟨rfl, ?_⟩)) ⟨rfl, by simp only; omega, ?_⟩ (by simp only; omega)
            simp only
            rw [hnx, ← Bool.and_assoc, ← he2, h6, Bool.false_and]
        · have hkl : k = c.pairs.length := by omega
          subst hkl
          rw [List.take_length] at he2
          obtain ⟨q, hq, hqc⟩ := hy3.2.2.1.row
          refine zrun ?_ ?_
          refine x_load rfl rfl (hpmt (d8)) rfl trivial ?_
          refine x_append (by rfl) (by rfl) (by rfl) rfl rfl rfl (Own.nil 2 H3) sP (by rw [pcs_length, hq.len]) hqc (pcs_oneC hq (fun v b h => isSl_oneC h.1.sl)) (by omega) rfl trivial ?_
          intro v4 H4 hap
          refine ⟨trivial, ?_⟩
          have hk04 := hap.old (Fresh.nil H) hk03
          have hf4 := hap.fresh (Fresh.nil H3) (Nat.le_refl _)
          have hk34 : Keep Non H3 H4 := hap.old (Fresh.nil H3) (Keep.refl _ _)
          have hO4 : Own 2 H4 v4 c.pairs.length (pcs q) := by simpa using hap.own
          have hV4 : RdV B0 H.size H4 v4 c.pairs := ⟨⟨q, hO4, hq.mono fun _ _ hb => hb.step hk34 (fun _ _ h => h) (fun _ h => h)⟩, fun hc => by have := hf4 hc; omega⟩
          have hB64 := hB63.keep hk34 (fun h => h)
          have hov := isSl_oneC hO4.sl
          refine zrun ?_ ?_
          refine x_build (cs := [v4, .int .i64 (i + 1), .int .i64 1, .bool e2]) rfl rfl rfl (ocp_cons hov (ocp_cons rfl (ocp_cons rfl (ocp_cons rfl ocp_nil)))) rfl trivial ?_
          refine x_stores rfl rfl rfl rfl (oc_cons hov (oc_cons rfl (oc_cons rfl (oc_cons rfl oc_nil)))) hB64 (by simp [zR]) trivial ?_
          intro H5 hB5 hk5 hs5
          refine ⟨trivial, ?_⟩
          refine zrun ?_ ?_
          refine cw_retc rfl rfl rfl (hB5.cels 0 4 (by simp [putL, zR])) ⟨keep_at hk04 hk5 (Nat.le_refl _), v4, ?_, ?_⟩
          · rw [hRc]
            have : e2 = okB c w := by rw [he2, he]; rfl
            rw [← this]
            rfl
          · rw [hRc]
            exact hV4.keep hk5 (fun hc e => by have := hf4 hc; have e : sb v4 = H.size := e; omega) (fun z hz e => by have e : z = H.size := e; omega)
      · rw [if_neg hk11] at hRc
        refine zrunc ?_ ?_
        refine cw_cut (fun e : Bool => [(0, vc), (1, .int .i64 i), (2, vw), (6, ptr H.size 0), (7, ptr H1.size 0), (141, .bool e)]) (fun e H' => H3 = H' ∧ (e = true → ¬ okN c) ∧ (e = false → okN c)) ?_ ?_
        · refine zrun ?_ ?_
          refine x_load rfl rfl (hpmt (d0)) rfl trivial ?_
          refine zrun ?_ ?_
          refine x_split 121 rfl (fun g1 => ?_) (fun g1 => ?_) <;> (try simp at g1)
          · refine zrun ?_ ?_
            exact nw_meet true (by repeat (first | exact True.intro | refine ⟨rfl, ?_⟩)) ⟨rfl, fun _ h => g1 h.1, fun e => by cases e⟩
          · refine zrun ?_ ?_
            refine x_load rfl rfl (hpmt (d8)) rfl trivial ?_
            refine zrun ?_ ?_
            refine x_split 127 rfl (fun g2 => ?_) (fun g2 => ?_) <;> (try simp at g2)
            · refine zrun ?_ ?_
              exact nw_meet true (by repeat (first | exact True.intro | refine ⟨rfl, ?_⟩)) ⟨rfl, fun _ h => by rw [h.2.1] at g2; simp at g2, fun e => by cases e⟩
            · have hp0 : c.pairs = [] := by first | exact g2 | (apply List.length_eq_zero_iff.1; omega)
              refine zrun ?_ ?_
              refine x_load rfl rfl (hpmt (d5)) rfl trivial ?_
              refine zrun ?_ ?_
              refine x_split 131 rfl (fun g3 => ?_) (fun g3 => ?_) <;> (try simp at g3)
              · refine zrun ?_ ?_
                refine x_load rfl rfl (hpmt (d6)) rfl trivial ?_
                refine zrun ?_ ?_
                refine x_split 137 rfl (fun g4 => ?_) (fun g4 => ?_) <;> (try simp at g4)
                · refine zrun ?_ ?_
                  exact nw_meet true (by repeat (first | exact True.intro | refine ⟨rfl, ?_⟩)) ⟨rfl, fun _ h => by rcases h.2.2.1 with h | h <;> simp_all, fun e => by cases e⟩
                · refine zrun ?_ ?_
                  refine x_load rfl rfl (hpmt (d3)) rfl trivial ?_
                  refine zrun ?_ ?_
                  exact nw_meet _ (by repeat (first | exact True.intro | refine ⟨rfl, ?_⟩)) ⟨rfl, fun e h => by have := of_decide_eq_true e; have := h.2.2.2; omega, fun e => ⟨g1, hp0, .inr (by simpa using g4), by have := of_decide_eq_false e; omega⟩⟩
              · refine zrun ?_ ?_
                refine x_load rfl rfl (hpmt (d3)) rfl trivial ?_
                refine zrun ?_ ?_
                exact nw_meet _ (by repeat (first | exact True.intro | refine ⟨rfl, ?_⟩)) ⟨rfl, fun e h => by have := of_decide_eq_true e; have := h.2.2.2; omega, fun e => ⟨g1, hp0, .inl (by simpa using g3), by have := of_decide_eq_false e; omega⟩⟩
        rintro e _ ⟨rfl, ht, hfl⟩
        cases e with
        | true =>
          rw [if_neg (ht rfl)] at hRc
          refine zrun ?_ ?_
          refine x_build (cs := [.slice none 0 0, .int .i64 0, .int .i64 0, .bool false]) rfl rfl rfl ocp_nil rfl trivial ?_
          refine x_stores rfl rfl rfl rfl (by simp [oneC, Value.oneCell']) (hB63) (by simp [zR]) trivial ?_
          intro Hz hBz hkz hsz
          refine ⟨trivial, ?_⟩
          refine zrun ?_ ?_
          exact cw_retc rfl rfl rfl (hBz.cels 0 4 (by simp [putL, zR])) ⟨keep_at (hk03) hkz (Nat.le_refl _), .slice none 0 0, by rw [hRc]; rfl, by rw [hRc]; exact RdV.nil _ _ _⟩
        | false =>
          have hN := hfl rfl
          rw [if_pos hN] at hRc
          refine zrun ?_ ?_
          refine x_build (cs := [.slice none 0 0, .int .i64 (i + 1), .int .i64 0, .bool true]) rfl rfl rfl (ocp_cons rfl (ocp_cons rfl ocp_nil)) rfl trivial ?_
          refine x_alloc rfl rfl trivial ?_
          intro H4 hn4
          refine ⟨trivial, ?_⟩
          refine x_stores rfl rfl rfl rfl (by simp [oneC, Value.oneCell']) hn4.blk (by simp) trivial ?_
          intro H5 hB11 hk5 hs5
          refine ⟨trivial, ?_⟩
          have hs4 := hn4.size
          have hk35 : Keep Non H3 H5 := keep_at hn4.keep hk5 (Nat.le_refl _)
          have d5' := hk35.cel d5 (fun h => h)
          refine zrun ?_ ?_
          refine x_load rfl rfl (hpmt (d5')) rfl trivial ?_
          refine zrun ?_ ?_
          refine cw_cut (fun v : Value => [(0, vc), (1, .int .i64 i), (2, vw), (6, ptr H.size 0), (7, ptr H1.size 0), (11, ptr H3.size 0)]) (fun v H' => Keep Non H3 H' ∧ H5.size ≤ H'.size ∧ Blk H' H3.size [v, .int .i64 (i + 1 : Nat), .int .i64 0, .bool true] ∧ RdV B0 H5.size H' v (beginB c i).P) ?_ ?_
          · refine cw_cond rfl (fun hfull => ?_) (fun hfull => ?_) <;> (try simp at hfull)
            · have d7' := hk35.cel d7 (fun h => h)
              have d6' := hk35.cel d6 (fun h => h)
              refine zrun ?_ ?_
              refine x_load rfl rfl (hpmt (d7')) rfl trivial ?_
              refine zrun ?_ ?_
              refine x_load rfl rfl (hpmt (d6')) rfl trivial ?_
              refine zrun ?_ ?_
              refine x_build (cs := [y.2.1, .int .u64 c.val]) rfl rfl rfl (two_oneC (isSl_oneC sK)) rfl trivial ?_
              refine x_buildSliceS1 (by rfl) rfl rfl (by omega) (by rfl) rfl trivial ?_
              intro H6 hn6
              refine ⟨trivial, ?_⟩
              have hs6 := hn6.size
              have hB116 := hB11.keep hn6.keep (fun h => h)
              refine zrun ?_ ?_
              refine x_store rfl rfl rfl rfl hB116 (by simp [putL]) trivial ?_
              intro H7 hB7a hk7 hs7
              refine ⟨trivial, ?_⟩
              have hk37 : Keep Non H3 H7 := keep_at (hn6.old hk35) hk7 (Nat.le_refl _)
              refine zrun ?_ ?_
              refine nw_meet (.slice (some ⟨H5.size, 0, none⟩) 1 1) (by repeat (first | exact True.intro | refine ⟨rfl, ?_⟩)) ⟨hk37, by omega, hB7a, ?_⟩
              have e : (beginB c i).P = [(c.key, c.val)] := by unfold beginB; rw [hfull]; rfl
              rw [e]
              refine ⟨⟨[(y.2.1, c.val)], ?_, Pk.one (p := (c.key, c.val)) (hy3.2.1.step hk37 (fun _ _ h => h) (fun _ h => h))⟩, fun _ => Nat.le_refl _⟩
              exact (Own.new (s := 2) (n := 1) hn6 rfl (by omega)).keep hk7 (fun _ e => by have e : H5.size = H3.size := e; omega)
            · refine zrun ?_ ?_
              refine nw_meet (.slice none 0 0) (by repeat (first | exact True.intro | refine ⟨rfl, ?_⟩)) ⟨hk35, Nat.le_refl _, hB11, ?_⟩
              have e : (beginB c i).P = [] := by unfold beginB; rw [hfull]; rfl
              rw [e]
              exact RdV.nil _ _ _
          rintro v0 H6 ⟨hk36, hs56, hB16, hV6⟩
          obtain ⟨N, hNN⟩ : ∃ N, N = (min c.kids 257).toNat := ⟨_, rfl⟩
          have hk0 := hN.2.2.2
          have hheld0 : Held l i (beginB c i) := fun _ => ⟨Nat.lt_succ_self i, hilt, by
            show manys (l.take (i + 1)) = _ + (if c.full then [(c.key, c.val)] else []).length
            rw [hmc, hcm, hN.2.1]
            cases c.full <;> rfl⟩
          obtain ⟨res, hres⟩ : ∃ res, res = kidsB (readB f l) l w N (beginB c i) (-1) := ⟨_, rfl⟩
          unfold nodeB at hRc
          rw [← hNN, ← hres] at hRc
          refine zrun ?_ ?_
          refine cw_loop (fun s : Nat × Int × RD × Value => [(0, vc), (1, .int .i64 i), (2, vw), (6, ptr H.size 0), (7, ptr H1.size 0), (11, ptr H3.size 0), (12, .int .i64 s.2.1), (13, .int .i64 s.1)]) (fun s H' => s.1 ≤ N ∧ kidsB (readB f l) l w (N - s.1) s.2.2.1 s.2.1 = res ∧ s.2.2.1.ok = true ∧ Held l i s.2.2.1 ∧ Keep Non H3 H' ∧ H5.size ≤ H'.size ∧ Blk H' H3.size [s.2.2.2, .int .i64 s.2.2.1.next, .int .i64 s.2.2.1.deep, .bool true] ∧ RdV B0 H5.size H' s.2.2.2 s.2.2.1.P) (fun s => N - s.1) (0, -1, beginB c i, v0) (by repeat (first | exact True.intro | refine ⟨rfl, ?_⟩)) ⟨Nat.zero_le _, hres.symm, rfl, hheld0, hk36, hs56, hB16, hV6⟩ ?_
          rintro ⟨k, last, r, v⟩ H7 ⟨hkN, hkr, hrok, hheld, hk37, hs57, hB17, hV7⟩
          simp only at hkN hkr hrok hheld hB17 hV7 ⊢
          have e3 := hk37.cel d3 (fun h => h)
          have e2 := hk37.cel d2 (fun h => h)
          have e7 := hk37.cel d7 (fun h => h)
          have f0 : cel H7 H3.size 0 = some v := by rw [hB17.cel]; rfl
          have f1 : cel H7 H3.size 1 = some (.int .i64 r.next) := by rw [hB17.cel]; rfl
          have f2 : cel H7 H3.size 2 = some (.int .i64 r.deep) := by rw [hB17.cel]; rfl
          have hk07 := hk03.non_trans hk37
          have hC7 := CR.keepN hC hk07
          have hW7 := hW.keepN hk07
          have hB67 := hB63.keep hk37 (fun h => h)
          have hs7 := hk07.size
          refine zrunc ?_ ?_
          refine cw_cut (fun e : Bool => [(0, vc), (1, .int .i64 i), (2, vw), (6, ptr H.size 0), (7, ptr H1.size 0), (11, ptr H3.size 0), (12, .int .i64 last), (13, .int .i64 k), (162, .bool e)]) (fun e H' => H7 = H' ∧ e = decide (k < N)) ?_ ?_
          · refine zrun ?_ ?_
            refine x_load rfl rfl (hpmt (e3)) rfl trivial ?_
            refine zrun ?_ ?_
            refine x_split 159 rfl (fun g5 => ?_) (fun g5 => ?_) <;> (try simp at g5)
            · refine zrun ?_ ?_
              exact nw_meet _ (by repeat (first | exact True.intro | refine ⟨rfl, ?_⟩)) ⟨rfl, decide_eq_decide.2 (by omega)⟩
            · refine zrun ?_ ?_
              exact nw_meet _ (by repeat (first | exact True.intro | refine ⟨rfl, ?_⟩)) ⟨rfl, (decide_eq_false (by omega)).symm⟩
          rintro e _ ⟨rfl, rfl⟩
          refine zrun ?_ ?_
          refine cw_cond rfl (fun hkN1 => ?_) (fun hkN1 => ?_) <;> (try simp at hkN1)
          · obtain ⟨m, hm⟩ : ∃ m, N - k = m + 1 := ⟨N - k - 1, by omega⟩
            rw [hm] at hkr
            unfold kidsB at hkr
            refine zrunc ?_ ?_
            refine cw_cut (fun e : Bool => [(0, vc), (1, .int .i64 i), (2, vw), (6, ptr H.size 0), (7, ptr H1.size 0), (11, ptr H3.size 0), (12, .int .i64 last), (13, .int .i64 k), (199, .bool e)]) (fun e H' => H7 = H' ∧ (e = true → none = res) ∧ (e = false → ∃ d, l[r.next]? = some d ∧ d.key.length = w.length + 1 ∧ last < ((d.key.getD w.length 0).toNat : Int))) ?_ ?_
            · refine cw_quiet mixed (by kernel_rfl) ?_
              have hkl : c.key.length = w.length := by rw [hkey]
              refine zrun ?_ ?_
              refine x_load rfl rfl (hpmt (f1)) rfl trivial ?_
              refine zrun ?_ ?_
              refine x_split 170 rfl (fun g1 => ?_) (fun g1 => ?_) <;> (try simp at g1)
              · have hn : l[r.next]? = none := List.getElem?_eq_none (by omega)
                rw [hn] at hkr
                refine zrun ?_ ?_
                exact nw_meet true (by repeat (first | exact True.intro | refine ⟨rfl, ?_⟩)) ⟨rfl, fun _ => hkr, fun e => by cases e⟩
              · obtain ⟨d, hd⟩ : ∃ d, l[r.next]? = some d := ⟨_, List.getElem?_eq_getElem (by omega)⟩
                rw [hd] at hkr
                simp only at hkr
                obtain ⟨x, hx, hxcel⟩ := Rd.cel hC7 encC_len hd
                have q7 : cel H7 (sb vc) (so vc + r.next * 9 + 7) = some x.2.1 := by rw [hxcel 7 (by omega)]; rfl
                have hX := hx.2.1.1
                have sX := hX.sl
                refine zrun ?_ ?_
                refine x_load rfl rfl (hpmt (f1)) rfl trivial ?_
                refine zrun ?_ ?_
                refine x_load rfl rfl (hpmt (q7)) rfl trivial ?_
                refine zrun ?_ ?_
                refine x_load rfl rfl (hpmt (e7)) rfl trivial ?_
                refine zrun ?_ ?_
                refine x_split 184 rfl (fun g2 => ?_) (fun g2 => ?_) <;> (try simp at g2)
                · rw [if_neg (fun h => by omega)] at hkr
                  refine zrun ?_ ?_
                  exact nw_meet true (by repeat (first | exact True.intro | refine ⟨rfl, ?_⟩)) ⟨rfl, fun _ => hkr, fun e => by cases e⟩
                · have hdl : d.key.length = w.length + 1 := by omega
                  have hgb : d.key[c.key.length]? = some (d.key.getD w.length 0) := by
                    rw [hkl, List.getD_eq_getElem?_getD, List.getElem?_eq_getElem (by omega)]; rfl
                  have qb := hX.get _ _ hgb
                  refine zrun ?_ ?_
                  refine x_load rfl rfl (hpmt (f1)) rfl trivial ?_
                  refine zrun ?_ ?_
                  refine x_load rfl rfl (hpmt (q7)) rfl trivial ?_
                  refine zrun ?_ ?_
                  refine x_load rfl rfl (hpmt (e7)) rfl trivial ?_
                  refine zrun ?_ ?_
                  refine x_load rfl rfl (hpmt qb) rfl trivial ?_
                  refine x_conv_int rfl rfl rfl trivial ?_
                  rw [wrap_i64 (by omega) (by have := (d.key.getD w.length 0).toNat_lt; omega)]
                  refine zrun ?_ ?_
                  refine nw_meet _ (by repeat (first | exact True.intro | refine ⟨rfl, ?_⟩)) ⟨rfl, fun e => ?_, fun e => ⟨d, hd, hdl, ?_⟩⟩
                  · have := of_decide_eq_true e
                    rw [if_neg (fun h => by omega)] at hkr
                    exact hkr
                  · have := of_decide_eq_false e
                    omega
            rintro e _ ⟨rfl, ht, hfl⟩
            cases e with
            | true =>
              have hnone := ht rfl
              rw [← hnone] at hRc
              have hz : R = {} := hRc
              refine zrun ?_ ?_
              refine x_build (cs := [.slice none 0 0, .int .i64 0, .int .i64 0, .bool false]) rfl rfl rfl ocp_nil rfl trivial ?_
              refine x_stores rfl rfl rfl rfl (by simp [oneC, Value.oneCell']) (hB67) (by simp [zR]) trivial ?_
              intro Hz hBz hkz hsz
              refine ⟨trivial, ?_⟩
              refine zrun ?_ ?_
              exact cw_retc rfl rfl rfl (hBz.cels 0 4 (by simp [putL, zR])) ⟨keep_at (hk07) hkz (Nat.le_refl _), .slice none 0 0, by rw [hz]; rfl, by rw [hz]; exact RdV.nil _ _ _⟩
            | false =>
              obtain ⟨d, hd, hdl, hlast⟩ := hfl rfl
              rw [hd] at hkr
              simp only at hkr
              rw [if_pos ⟨hdl, hlast⟩] at hkr
              have hkl : c.key.length = w.length := by rw [hkey]
              have hgb : d.key[c.key.length]? = some (d.key.getD w.length 0) := by
                rw [hkl, List.getD_eq_getElem?_getD, List.getElem?_eq_getElem (by omega)]; rfl
              obtain ⟨b, hb⟩ : ∃ b, b = d.key.getD w.length 0 := ⟨_, rfl⟩
              rw [← hb] at hkr hgb
              have hb256 := b.toNat_lt
              have hnlt := (List.getElem?_eq_some_iff.1 hd).1
              obtain ⟨x, hx, hxcel⟩ := Rd.cel hC7 encC_len hd
              have q7 : cel H7 (sb vc) (so vc + r.next * 9 + 7) = some x.2.1 := by rw [hxcel 7 (by omega)]; rfl
              have hX := hx.2.1.1
              have sX := hX.sl
              have qb := hX.get _ _ hgb
              have hnext := (hheld hrok).1
              refine zrunc ?_ ?_
              refine cw_cut (fun _ : Unit => [(0, vc), (1, .int .i64 i), (2, vw), (6, ptr H.size 0), (7, ptr H1.size 0), (11, ptr H3.size 0), (12, .int .i64 (b.toNat : Int)), (13, .int .i64 k)]) (fun _ H' => H7 = H') ?_ ?_
              · refine cw_quiet mixed (by kernel_rfl) ?_
                refine zrun ?_ ?_
                refine x_load rfl rfl (hpmt (f1)) rfl trivial ?_
                refine zrun ?_ ?_
                refine x_load rfl rfl (hpmt (q7)) rfl trivial ?_
                refine zrun ?_ ?_
                refine x_load rfl rfl (hpmt (e7)) rfl trivial ?_
                refine zrun ?_ ?_
                refine x_load rfl rfl (hpmt qb) rfl trivial ?_
                refine x_conv_int rfl rfl rfl trivial ?_
                rw [wrap_i64 (by omega) (by omega)]
                refine zrun ?_ ?_
                exact nw_meet () (by repeat (first | exact True.intro | refine ⟨rfl, ?_⟩)) rfl
              rintro _ _ rfl
              have hkr7 := Keep.refl Non H7
              obtain ⟨X, hX'⟩ : ∃ X, X = readB f l r.next (w ++ [b]) := ⟨_, rfl⟩
              refine zrunc ?_ ?_
              refine cw_cut (fun s : Nat × Value => [(0, vc), (1, .int .i64 i), (2, vw), (6, ptr H.size 0), (7, ptr H1.size 0), (11, ptr H3.size 0), (12, .int .i64 (b.toNat : Int)), (13, .int .i64 k), (14, ptr s.1 0)]) (fun s H' => Keep Non H7 H' ∧ Blk H' s.1 [s.2, .int .i64 (readB f l r.next (w ++ [b])).next, .int .i64 (readB f l r.next (w ++ [b])).deep, .bool (readB f l r.next (w ++ [b])).ok] ∧ RdV B0 H7.size H' s.2 (readB f l r.next (w ++ [b])).P ∧ H7.size ≤ s.1) ?_ ?_
              · refine cw_held (fun _ => Keep Non H7) ⟨[4, 7, 8, 9, 10, 11], [(2, 0)]⟩ (.op 0 (.op 1 (.op 2 (.op 3 (.op 5 (.op 6 (.alt (.op 4 (.alt (.op 7 (.alt (.op 8 (.alt (.op 9 (.op 10 (.op 11 (.nil)))) (.op 10 (.op 9 (.op 11 (.nil)))))) (.op 10 (.op 8 (.op 9 (.op 11 (.nil))))))) (.op 10 (.op 7 (.op 8 (.op 9 (.op 11 (.nil)))))))) (.alt (.op 7 (.alt (.op 4 (.alt (.op 8 (.alt (.op 9 (.op 10 (.op 11 (.nil)))) (.op 10 (.op 9 (.op 11 (.nil)))))) (.op 10 (.op 8 (.op 9 (.op 11 (.nil))))))) (.op 10 (.op 4 (.op 8 (.op 9 (.op 11 (.nil)))))))) (.op 10 (.alt (.op 4 (.op 7 (.op 8 (.op 9 (.op 11 (.nil)))))) (.op 7 (.op 4 (.op 8 (.op 9 (.op 11 (.nil)))))))))))))))) panicOk_body mixed (by kernel_rfl) ?_
                refine zhrun ?_ ?_
                refine x_load rfl rfl (hpmk rfl (fun _ hk => hk.cel f1 (fun h => h))) rfl (okq_load rfl rfl (by assumption)) ?_
                refine zhrun ?_ ?_
                refine x_conv_int rfl rfl rfl (okq_reg rfl rfl) ?_
                rw [show IntKind.u8.wrap (b.toNat : Int) = (b.toNat : Int) by rw [wrap_u8_mod]; omega]
                refine zhrun ?_ ?_
                refine x_alt ?_ (x_alt ?_ ?_)
                · refine x_append (by rfl) (by rfl) (by rfl) rfl rfl rfl (Own.nil 1 H7) sW (by rw [bvs_length, Nat.mul_one]) (hW7.keepN hkr7).at_ (bvs_oneC _) (by omega) rfl ⟨rfl, rfl⟩ ?_
                  intro vA HA hapA
                  refine ⟨okm_keep (hapA.old (Fresh.nil H7) (Keep.refl _ _)) (fun _ _ h => h), ?_⟩
                  have kA : Keep Non H7 HA := hapA.old (Fresh.nil H7) hkr7
                  have kA' : Keep Non H7 HA := hapA.old (Fresh.nil H7) (Keep.refl _ _)
                  have fA : 0 < sc vA → H7.size ≤ sb vA := hapA.fresh (Fresh.nil H7) hkr7.size
                  have fA' : 0 < sc vA → H7.size ≤ sb vA := hapA.fresh (Fresh.nil H7) (Nat.le_refl _)
                  have oA : Own 1 HA vA w.length (bvs w) := by simpa using hapA.own
                  refine zhrun ?_ ?_
                  refine x_alt ?_ ?_
                  · refine x_buildSlice rfl rfl rfl rfl (by omega) (by simp [oneC, Value.oneCell']) rfl ⟨rfl, rfl⟩ ?_
                    intro HB hnB
                    refine ⟨okm_keep hnB.keep (fun _ _ h => h), ?_⟩
                    have kB : Keep Non H7 HB := hnB.old kA
                    have bB : Blk HB HA.size [kb b] := hnB.blk
                    have oA := oA.keep (S := Non) hnB.keep (fun _ h => h)
                    refine zhrun ?_ ?_
                    refine x_alt ?_ ?_
                    · refine x_append (by rfl) (by rfl) (by rfl) rfl rfl rfl oA (isSl_some (Nat.le_refl _) (by omega)) (m := 1) (cx := [kb b]) rfl (bB.cels 0 1 (by simp)) (by simp [oneC, Value.oneCell']) (by omega) rfl ⟨rfl, rfl⟩ ?_
                      intro vC HC hapC
                      refine ⟨okm_keep hapC.keep (fun z hz e => by have := fA (by have := e.2; omega); have := e.1; omega), ?_⟩
                      have kC : Keep Non H7 HC := hapC.old fA kB
                      have bsC : Bs HC vC (w ++ [b]) := (show Own 1 HC vC (w ++ [b]).length (bvs (w ++ [b])) by rw [bvs_append, List.length_append]; exact hapC.own).bs
                      refine zhrun ?_ ?_
                      refine x_alt ?_ ?_
                      · refine x_call rfl rfl rfl ⟨rfl, rfl⟩ (ih (i := r.next) (w := w ++ [b]) (by omega) (by omega) (by simp only [List.length_append, List.length_cons, List.length_nil]; omega) (CR.keepN hC7 kC) bsC (by have := kC.size; omega)) ?_
                        rintro _ HD ⟨hkD, vx, rfl, hVx⟩
                        refine ⟨okm_keep hkD (fun _ _ h => h), ?_⟩
                        have kD : Keep Non H7 HD := kC.non_trans hkD
                        have szD : H7.size ≤ HC.size := kC.size
                        refine zhrun ?_ ?_
                        refine x_alloc rfl rfl ⟨rfl, rfl⟩ ?_
                        intro HE hnE
                        refine ⟨okm_keep hnE.keep (fun _ _ h => h), ?_⟩
                        have kE : Keep Non H7 HE := hnE.old kD
                        have geE : H7.size ≤ HD.size := kD.size
                        have bE : Blk HE HD.size zR := hnE.blk
                        have ltV : 0 < sc vx → sb vx < _ := fun hc => let ⟨_, o, _⟩ := hVx.row; o.lt hc
                        have hVx := hVx.keepN hnE.keep
                        refine zhrun ?_ ?_
                        have sVx := hVx.ps.sl
                        refine x_stores rfl rfl rfl rfl (oc_cons (isSl_oneC sVx) (oc_cons rfl (oc_cons rfl (oc_cons rfl oc_nil)))) bE (by simp [zR]) ⟨rfl, rfl⟩ ?_
                        intro HS hBS hkS hsS
                        have aeq : ∀ z, z = HD.size → H7.size ≤ z := fun z e => by omega
                        refine ⟨okm_keep hkS (fun z hz e => by have := aeq z e; omega), ?_⟩
                        refine zhrun ?_ ?_
                        refine zrun ?_ ?_
                        exact nw_meet (HD.size, vx) (by repeat (first | exact True.intro | refine ⟨rfl, ?_⟩)) ⟨keep_at kE hkS geE, hBS, (hVx.mono szD).keep hkS (fun hc e => by have := ltV hc; have e : sb vx = HD.size := e; omega) (fun z hz e => by have := aeq z e; omega), geE⟩
                      · refine x_alloc rfl rfl ⟨rfl, rfl⟩ ?_
                        intro HE hnE
                        refine ⟨okm_keep hnE.keep (fun _ _ h => h), ?_⟩
                        have kE : Keep Non H7 HE := hnE.old kC
                        have geE : H7.size ≤ HC.size := kC.size
                        have bE : Blk HE HC.size zR := hnE.blk
                        have bsC := bsC.keepN hnE.keep
                        refine zhrun ?_ ?_
                        refine x_call rfl rfl rfl ⟨rfl, rfl⟩ (ih (i := r.next) (w := w ++ [b]) (by omega) (by omega) (by simp only [List.length_append, List.length_cons, List.length_nil]; omega) (CR.keepN hC7 kE) bsC (by have := kE.size; omega)) ?_
                        rintro _ HD ⟨hkD, vx, rfl, hVx⟩
                        refine ⟨okm_keep hkD (fun _ _ h => h), ?_⟩
                        have kD : Keep Non H7 HD := kE.non_trans hkD
                        have szD : H7.size ≤ HE.size := kE.size
                        have ltE2 := bE.lt
                        have bE := bE.keep hkD (fun h => h)
                        refine zhrun ?_ ?_
                        have sVx := hVx.ps.sl
                        refine x_stores rfl rfl rfl rfl (oc_cons (isSl_oneC sVx) (oc_cons rfl (oc_cons rfl (oc_cons rfl oc_nil)))) bE (by simp [zR]) ⟨rfl, rfl⟩ ?_
                        intro HS hBS hkS hsS
                        have aeq : ∀ z, z = HC.size → H7.size ≤ z := fun z e => by omega
                        refine ⟨okm_keep hkS (fun z hz e => by have := aeq z e; omega), ?_⟩
                        refine zhrun ?_ ?_
                        refine zrun ?_ ?_
                        exact nw_meet (HC.size, vx) (by repeat (first | exact True.intro | refine ⟨rfl, ?_⟩)) ⟨keep_at kD hkS geE, hBS, (hVx.mono szD).keep hkS (fun hc e => by have := hVx.fresh hc; have e : sb vx = HC.size := e; omega) (fun z hz e => by have := aeq z e; omega), geE⟩
                    · refine x_alloc rfl rfl ⟨rfl, rfl⟩ ?_
                      intro HE hnE
                      refine ⟨okm_keep hnE.keep (fun _ _ h => h), ?_⟩
                      have kE : Keep Non H7 HE := hnE.old kB
                      have geE : H7.size ≤ HB.size := kB.size
                      have bE : Blk HE HB.size zR := hnE.blk
                      have ltA : 0 < sc vA → sb vA < _ := fun hc => oA.lt hc
                      have oA := oA.keep (S := Non) hnE.keep (fun _ h => h)
                      have bB := bB.keep (S := Non) hnE.keep (fun h => h)
                      refine zhrun ?_ ?_
                      refine x_append (by rfl) (by rfl) (by rfl) rfl rfl rfl oA (isSl_some (Nat.le_refl _) (by omega)) (m := 1) (cx := [kb b]) rfl (bB.cels 0 1 (by simp)) (by simp [oneC, Value.oneCell']) (by omega) rfl ⟨rfl, rfl⟩ ?_
                      intro vC HC hapC
                      refine ⟨okm_keep hapC.keep (fun z hz e => by have := fA (by have := e.2; omega); have := e.1; omega), ?_⟩
                      have kC : Keep Non H7 HC := hapC.old fA kE
                      have bsC : Bs HC vC (w ++ [b]) := (show Own 1 HC vC (w ++ [b]).length (bvs (w ++ [b])) by rw [bvs_append, List.length_append]; exact hapC.own).bs
                      have bE := bE.keep hapC.keep (fun e => by have := ltA (by have := e.2; omega); have := e.1; omega)
                      refine zhrun ?_ ?_
                      refine x_call rfl rfl rfl ⟨rfl, rfl⟩ (ih (i := r.next) (w := w ++ [b]) (by omega) (by omega) (by simp only [List.length_append, List.length_cons, List.length_nil]; omega) (CR.keepN hC7 kC) bsC (by have := kC.size; omega)) ?_
                      rintro _ HD ⟨hkD, vx, rfl, hVx⟩
                      refine ⟨okm_keep hkD (fun _ _ h => h), ?_⟩
                      have kD : Keep Non H7 HD := kC.non_trans hkD
                      have szD : H7.size ≤ HC.size := kC.size
                      have ltE2 := bE.lt
                      have bE := bE.keep hkD (fun h => h)
                      refine zhrun ?_ ?_
                      have sVx := hVx.ps.sl
                      refine x_stores rfl rfl rfl rfl (oc_cons (isSl_oneC sVx) (oc_cons rfl (oc_cons rfl (oc_cons rfl oc_nil)))) bE (by simp [zR]) ⟨rfl, rfl⟩ ?_
                      intro HS hBS hkS hsS
                      have aeq : ∀ z, z = HB.size → H7.size ≤ z := fun z e => by omega
                      refine ⟨okm_keep hkS (fun z hz e => by have := aeq z e; omega), ?_⟩
                      refine zhrun ?_ ?_
                      refine zrun ?_ ?_
                      exact nw_meet (HB.size, vx) (by repeat (first | exact True.intro | refine ⟨rfl, ?_⟩)) ⟨keep_at kD hkS geE, hBS, (hVx.mono szD).keep hkS (fun hc e => by have := hVx.fresh hc; have e : sb vx = HB.size := e; omega) (fun z hz e => by have := aeq z e; omega), geE⟩
                  · refine x_alloc rfl rfl ⟨rfl, rfl⟩ ?_
                    intro HE hnE
                    refine ⟨okm_keep hnE.keep (fun _ _ h => h), ?_⟩
                    have kE : Keep Non H7 HE := hnE.old kA
                    have geE : H7.size ≤ HA.size := kA.size
                    have bE : Blk HE HA.size zR := hnE.blk
                    have ltA : 0 < sc vA → sb vA < _ := fun hc => oA.lt hc
                    have oA := oA.keep (S := Non) hnE.keep (fun _ h => h)
                    refine zhrun ?_ ?_
                    refine x_buildSlice rfl rfl rfl rfl (by omega) (by simp [oneC, Value.oneCell']) rfl ⟨rfl, rfl⟩ ?_
                    intro HB hnB
                    refine ⟨okm_keep hnB.keep (fun _ _ h => h), ?_⟩
                    have kB : Keep Non H7 HB := hnB.old kE
                    have bB : Blk HB HE.size [kb b] := hnB.blk
                    have oA := oA.keep (S := Non) hnB.keep (fun _ h => h)
                    have bE := bE.keep (S := Non) hnB.keep (fun h => h)
                    refine zhrun ?_ ?_
                    refine x_append (by rfl) (by rfl) (by rfl) rfl rfl rfl oA (isSl_some (Nat.le_refl _) (by omega)) (m := 1) (cx := [kb b]) rfl (bB.cels 0 1 (by simp)) (by simp [oneC, Value.oneCell']) (by omega) rfl ⟨rfl, rfl⟩ ?_
                    intro vC HC hapC
                    refine ⟨okm_keep hapC.keep (fun z hz e => by have := fA (by have := e.2; omega); have := e.1; omega), ?_⟩
                    have kC : Keep Non H7 HC := hapC.old fA kB
                    have bsC : Bs HC vC (w ++ [b]) := (show Own 1 HC vC (w ++ [b]).length (bvs (w ++ [b])) by rw [bvs_append, List.length_append]; exact hapC.own).bs
                    have bE := bE.keep hapC.keep (fun e => by have := ltA (by have := e.2; omega); have := e.1; omega)
                    refine zhrun ?_ ?_
                    refine x_call rfl rfl rfl ⟨rfl, rfl⟩ (ih (i := r.next) (w := w ++ [b]) (by omega) (by omega) (by simp only [List.length_append, List.length_cons, List.length_nil]; omega) (CR.keepN hC7 kC) bsC (by have := kC.size; omega)) ?_
                    rintro _ HD ⟨hkD, vx, rfl, hVx⟩
                    refine ⟨okm_keep hkD (fun _ _ h => h), ?_⟩
                    have kD : Keep Non H7 HD := kC.non_trans hkD
                    have szD : H7.size ≤ HC.size := kC.size
                    have ltE2 := bE.lt
                    have bE := bE.keep hkD (fun h => h)
                    refine zhrun ?_ ?_
                    have sVx := hVx.ps.sl
                    refine x_stores rfl rfl rfl rfl (oc_cons (isSl_oneC sVx) (oc_cons rfl (oc_cons rfl (oc_cons rfl oc_nil)))) bE (by simp [zR]) ⟨rfl, rfl⟩ ?_
                    intro HS hBS hkS hsS
                    have aeq : ∀ z, z = HA.size → H7.size ≤ z := fun z e => by omega
                    refine ⟨okm_keep hkS (fun z hz e => by have := aeq z e; omega), ?_⟩
                    refine zhrun ?_ ?_
                    refine zrun ?_ ?_
                    exact nw_meet (HA.size, vx) (by repeat (first | exact True.intro | refine ⟨rfl, ?_⟩)) ⟨keep_at kD hkS geE, hBS, (hVx.mono szD).keep hkS (fun hc e => by have := hVx.fresh hc; have e : sb vx = HA.size := e; omega) (fun z hz e => by have := aeq z e; omega), geE⟩
                · refine x_buildSlice rfl rfl rfl rfl (by omega) (by simp [oneC, Value.oneCell']) rfl ⟨rfl, rfl⟩ ?_
                  intro HB hnB
                  refine ⟨okm_keep hnB.keep (fun _ _ h => h), ?_⟩
                  have kB : Keep Non H7 HB := hnB.old hkr7
                  have bB : Blk HB H7.size [kb b] := hnB.blk
                  refine zhrun ?_ ?_
                  refine x_alt ?_ ?_
                  · refine x_append (by rfl) (by rfl) (by rfl) rfl rfl rfl (Own.nil 1 HB) sW (by rw [bvs_length, Nat.mul_one]) (hW7.keepN kB).at_ (bvs_oneC _) (by omega) rfl ⟨rfl, rfl⟩ ?_
                    intro vA HA hapA
                    refine ⟨okm_keep (hapA.old (Fresh.nil HB) (Keep.refl _ _)) (fun _ _ h => h), ?_⟩
                    have kA : Keep Non H7 HA := hapA.old (Fresh.nil H7) kB
                    have kA' : Keep Non HB HA := hapA.old (Fresh.nil HB) (Keep.refl _ _)
                    have fA : 0 < sc vA → H7.size ≤ sb vA := hapA.fresh (Fresh.nil H7) kB.size
                    have fA' : 0 < sc vA → HB.size ≤ sb vA := hapA.fresh (Fresh.nil HB) (Nat.le_refl _)
                    have oA : Own 1 HA vA w.length (bvs w) := by simpa using hapA.own
                    have bB := bB.keep kA' (fun h => h)
                    refine zhrun ?_ ?_
                    refine x_alt ?_ ?_
                    · refine x_append (by rfl) (by rfl) (by rfl) rfl rfl rfl oA (isSl_some (Nat.le_refl _) (by omega)) (m := 1) (cx := [kb b]) rfl (bB.cels 0 1 (by simp)) (by simp [oneC, Value.oneCell']) (by omega) rfl ⟨rfl, rfl⟩ ?_
                      intro vC HC hapC
                      refine ⟨okm_keep hapC.keep (fun z hz e => by have := fA (by have := e.2; omega); have := e.1; omega), ?_⟩
                      have kC : Keep Non H7 HC := hapC.old fA kA
                      have bsC : Bs HC vC (w ++ [b]) := (show Own 1 HC vC (w ++ [b]).length (bvs (w ++ [b])) by rw [bvs_append, List.length_append]; exact hapC.own).bs
                      refine zhrun ?_ ?_
                      refine x_alt ?_ ?_
                      · refine x_call rfl rfl rfl ⟨rfl, rfl⟩ (ih (i := r.next) (w := w ++ [b]) (by omega) (by omega) (by simp only [List.length_append, List.length_cons, List.length_nil]; omega) (CR.keepN hC7 kC) bsC (by have := kC.size; omega)) ?_
                        rintro _ HD ⟨hkD, vx, rfl, hVx⟩
                        refine ⟨okm_keep hkD (fun _ _ h => h), ?_⟩
                        have kD : Keep Non H7 HD := kC.non_trans hkD
                        have szD : H7.size ≤ HC.size := kC.size
                        refine zhrun ?_ ?_
                        refine x_alloc rfl rfl ⟨rfl, rfl⟩ ?_
                        intro HE hnE
                        refine ⟨okm_keep hnE.keep (fun _ _ h => h), ?_⟩
                        have kE : Keep Non H7 HE := hnE.old kD
                        have geE : H7.size ≤ HD.size := kD.size
                        have bE : Blk HE HD.size zR := hnE.blk
                        have ltV : 0 < sc vx → sb vx < _ := fun hc => let ⟨_, o, _⟩ := hVx.row; o.lt hc
                        have hVx := hVx.keepN hnE.keep
                        refine zhrun ?_ ?_
                        have sVx := hVx.ps.sl
                        refine x_stores rfl rfl rfl rfl (oc_cons (isSl_oneC sVx) (oc_cons rfl (oc_cons rfl (oc_cons rfl oc_nil)))) bE (by simp [zR]) ⟨rfl, rfl⟩ ?_
                        intro HS hBS hkS hsS
                        have aeq : ∀ z, z = HD.size → H7.size ≤ z := fun z e => by omega
                        refine ⟨okm_keep hkS (fun z hz e => by have := aeq z e; omega), ?_⟩
                        refine zhrun ?_ ?_
                        refine zrun ?_ ?_
                        exact nw_meet (HD.size, vx) (by repeat (first | exact True.intro | refine ⟨rfl, ?_⟩)) ⟨keep_at kE hkS geE, hBS, (hVx.mono szD).keep hkS (fun hc e => by have := ltV hc; have e : sb vx = HD.size := e; omega) (fun z hz e => by have := aeq z e; omega), geE⟩
                      · refine x_alloc rfl rfl ⟨rfl, rfl⟩ ?_
                        intro HE hnE
                        refine ⟨okm_keep hnE.keep (fun _ _ h => h), ?_⟩
                        have kE : Keep Non H7 HE := hnE.old kC
                        have geE : H7.size ≤ HC.size := kC.size
                        have bE : Blk HE HC.size zR := hnE.blk
                        have bsC := bsC.keepN hnE.keep
                        refine zhrun ?_ ?_
                        refine x_call rfl rfl rfl ⟨rfl, rfl⟩ (ih (i := r.next) (w := w ++ [b]) (by omega) (by omega) (by simp only [List.length_append, List.length_cons, List.length_nil]; omega) (CR.keepN hC7 kE) bsC (by have := kE.size; omega)) ?_
                        rintro _ HD ⟨hkD, vx, rfl, hVx⟩
                        refine ⟨okm_keep hkD (fun _ _ h => h), ?_⟩
                        have kD : Keep Non H7 HD := kE.non_trans hkD
                        have szD : H7.size ≤ HE.size := kE.size
                        have ltE2 := bE.lt
                        have bE := bE.keep hkD (fun h => h)
                        refine zhrun ?_ ?_
                        have sVx := hVx.ps.sl
                        refine x_stores rfl rfl rfl rfl (oc_cons (isSl_oneC sVx) (oc_cons rfl (oc_cons rfl (oc_cons rfl oc_nil)))) bE (by simp [zR]) ⟨rfl, rfl⟩ ?_
                        intro HS hBS hkS hsS
                        have aeq : ∀ z, z = HC.size → H7.size ≤ z := fun z e => by omega
                        refine ⟨okm_keep hkS (fun z hz e => by have := aeq z e; omega), ?_⟩
                        refine zhrun ?_ ?_
                        refine zrun ?_ ?_
                        exact nw_meet (HC.size, vx) (by repeat (first | exact True.intro | refine ⟨rfl, ?_⟩)) ⟨keep_at kD hkS geE, hBS, (hVx.mono szD).keep hkS (fun hc e => by have := hVx.fresh hc; have e : sb vx = HC.size := e; omega) (fun z hz e => by have := aeq z e; omega), geE⟩
                    · refine x_alloc rfl rfl ⟨rfl, rfl⟩ ?_
                      intro HE hnE
                      refine ⟨okm_keep hnE.keep (fun _ _ h => h), ?_⟩
                      have kE : Keep Non H7 HE := hnE.old kA
                      have geE : H7.size ≤ HA.size := kA.size
                      have bE : Blk HE HA.size zR := hnE.blk
                      have ltA : 0 < sc vA → sb vA < _ := fun hc => oA.lt hc
                      have oA := oA.keep (S := Non) hnE.keep (fun _ h => h)
                      have bB := bB.keep (S := Non) hnE.keep (fun h => h)
                      refine zhrun ?_ ?_
                      refine x_append (by rfl) (by rfl) (by rfl) rfl rfl rfl oA (isSl_some (Nat.le_refl _) (by omega)) (m := 1) (cx := [kb b]) rfl (bB.cels 0 1 (by simp)) (by simp [oneC, Value.oneCell']) (by omega) rfl ⟨rfl, rfl⟩ ?_
                      intro vC HC hapC
                      refine ⟨okm_keep hapC.keep (fun z hz e => by have := fA (by have := e.2; omega); have := e.1; omega), ?_⟩
                      have kC : Keep Non H7 HC := hapC.old fA kE
                      have bsC : Bs HC vC (w ++ [b]) := (show Own 1 HC vC (w ++ [b]).length (bvs (w ++ [b])) by rw [bvs_append, List.length_append]; exact hapC.own).bs
                      have bE := bE.keep hapC.keep (fun e => by have := ltA (by have := e.2; omega); have := e.1; omega)
                      refine zhrun ?_ ?_
                      refine x_call rfl rfl rfl ⟨rfl, rfl⟩ (ih (i := r.next) (w := w ++ [b]) (by omega) (by omega) (by simp only [List.length_append, List.length_cons, List.length_nil]; omega) (CR.keepN hC7 kC) bsC (by have := kC.size; omega)) ?_
                      rintro _ HD ⟨hkD, vx, rfl, hVx⟩
                      refine ⟨okm_keep hkD (fun _ _ h => h), ?_⟩
                      have kD : Keep Non H7 HD := kC.non_trans hkD
                      have szD : H7.size ≤ HC.size := kC.size
                      have ltE2 := bE.lt
                      have bE := bE.keep hkD (fun h => h)
                      refine zhrun ?_ ?_
                      have sVx := hVx.ps.sl
                      refine x_stores rfl rfl rfl rfl (oc_cons (isSl_oneC sVx) (oc_cons rfl (oc_cons rfl (oc_cons rfl oc_nil)))) bE (by simp [zR]) ⟨rfl, rfl⟩ ?_
                      intro HS hBS hkS hsS
                      have aeq : ∀ z, z = HA.size → H7.size ≤ z := fun z e => by omega
                      refine ⟨okm_keep hkS (fun z hz e => by have := aeq z e; omega), ?_⟩
                      refine zhrun ?_ ?_
                      refine zrun ?_ ?_
                      exact nw_meet (HA.size, vx) (by repeat (first | exact True.intro | refine ⟨rfl, ?_⟩)) ⟨keep_at kD hkS geE, hBS, (hVx.mono szD).keep hkS (fun hc e => by have := hVx.fresh hc; have e : sb vx = HA.size := e; omega) (fun z hz e => by have := aeq z e; omega), geE⟩
                  · refine x_alloc rfl rfl ⟨rfl, rfl⟩ ?_
                    intro HE hnE
                    refine ⟨okm_keep hnE.keep (fun _ _ h => h), ?_⟩
                    have kE : Keep Non H7 HE := hnE.old kB
                    have geE : H7.size ≤ HB.size := kB.size
                    have bE : Blk HE HB.size zR := hnE.blk
                    have bB := bB.keep (S := Non) hnE.keep (fun h => h)
                    refine zhrun ?_ ?_
                    refine x_append (by rfl) (by rfl) (by rfl) rfl rfl rfl (Own.nil 1 HE) sW (by rw [bvs_length, Nat.mul_one]) (hW7.keepN kE).at_ (bvs_oneC _) (by omega) rfl ⟨rfl, rfl⟩ ?_
                    intro vA HA hapA
                    refine ⟨okm_keep (hapA.old (Fresh.nil HE) (Keep.refl _ _)) (fun _ _ h => h), ?_⟩
                    have kA : Keep Non H7 HA := hapA.old (Fresh.nil H7) kE
                    have kA' : Keep Non HE HA := hapA.old (Fresh.nil HE) (Keep.refl _ _)
                    have fA : 0 < sc vA → H7.size ≤ sb vA := hapA.fresh (Fresh.nil H7) kE.size
                    have fA' : 0 < sc vA → HE.size ≤ sb vA := hapA.fresh (Fresh.nil HE) (Nat.le_refl _)
                    have oA : Own 1 HA vA w.length (bvs w) := by simpa using hapA.own
                    have bB := bB.keep kA' (fun h => h)
                    have ltE := bE.lt
                    have bE := bE.keep kA' (fun h => h)
                    refine zhrun ?_ ?_
                    refine x_append (by rfl) (by rfl) (by rfl) rfl rfl rfl oA (isSl_some (Nat.le_refl _) (by omega)) (m := 1) (cx := [kb b]) rfl (bB.cels 0 1 (by simp)) (by simp [oneC, Value.oneCell']) (by omega) rfl ⟨rfl, rfl⟩ ?_
                    intro vC HC hapC
                    refine ⟨okm_keep hapC.keep (fun z hz e => by have := fA (by have := e.2; omega); have := e.1; omega), ?_⟩
                    have kC : Keep Non H7 HC := hapC.old fA kA
                    have bsC : Bs HC vC (w ++ [b]) := (show Own 1 HC vC (w ++ [b]).length (bvs (w ++ [b])) by rw [bvs_append, List.length_append]; exact hapC.own).bs
                    have bE := bE.keep hapC.keep (fun e => by have := fA' (by have := e.2; omega); have := e.1; omega)
                    refine zhrun ?_ ?_
                    refine x_call rfl rfl rfl ⟨rfl, rfl⟩ (ih (i := r.next) (w := w ++ [b]) (by omega) (by omega) (by simp only [List.length_append, List.length_cons, List.length_nil]; omega) (CR.keepN hC7 kC) bsC (by have := kC.size; omega)) ?_
                    rintro _ HD ⟨hkD, vx, rfl, hVx⟩
                    refine ⟨okm_keep hkD (fun _ _ h => h), ?_⟩
                    have kD : Keep Non H7 HD := kC.non_trans hkD
                    have szD : H7.size ≤ HC.size := kC.size
                    have ltE2 := bE.lt
                    have bE := bE.keep hkD (fun h => h)
                    refine zhrun ?_ ?_
                    have sVx := hVx.ps.sl
                    refine x_stores rfl rfl rfl rfl (oc_cons (isSl_oneC sVx) (oc_cons rfl (oc_cons rfl (oc_cons rfl oc_nil)))) bE (by simp [zR]) ⟨rfl, rfl⟩ ?_
                    intro HS hBS hkS hsS
                    have aeq : ∀ z, z = HB.size → H7.size ≤ z := fun z e => by omega
                    refine ⟨okm_keep hkS (fun z hz e => by have := aeq z e; omega), ?_⟩
                    refine zhrun ?_ ?_
                    refine zrun ?_ ?_
                    exact nw_meet (HB.size, vx) (by repeat (first | exact True.intro | refine ⟨rfl, ?_⟩)) ⟨keep_at kD hkS geE, hBS, (hVx.mono szD).keep hkS (fun hc e => by have := hVx.fresh hc; have e : sb vx = HB.size := e; omega) (fun z hz e => by have := aeq z e; omega), geE⟩
                · refine x_alloc rfl rfl ⟨rfl, rfl⟩ ?_
                  intro HE hnE
                  refine ⟨okm_keep hnE.keep (fun _ _ h => h), ?_⟩
                  have kE : Keep Non H7 HE := hnE.old hkr7
                  have geE : H7.size ≤ H7.size := hkr7.size
                  have bE : Blk HE H7.size zR := hnE.blk
                  refine zhrun ?_ ?_
                  refine x_alt ?_ ?_
                  · refine x_append (by rfl) (by rfl) (by rfl) rfl rfl rfl (Own.nil 1 HE) sW (by rw [bvs_length, Nat.mul_one]) (hW7.keepN kE).at_ (bvs_oneC _) (by omega) rfl ⟨rfl, rfl⟩ ?_
                    intro vA HA hapA
                    refine ⟨okm_keep (hapA.old (Fresh.nil HE) (Keep.refl _ _)) (fun _ _ h => h), ?_⟩
                    have kA : Keep Non H7 HA := hapA.old (Fresh.nil H7) kE
                    have kA' : Keep Non HE HA := hapA.old (Fresh.nil HE) (Keep.refl _ _)
                    have fA : 0 < sc vA → H7.size ≤ sb vA := hapA.fresh (Fresh.nil H7) kE.size
                    have fA' : 0 < sc vA → HE.size ≤ sb vA := hapA.fresh (Fresh.nil HE) (Nat.le_refl _)
                    have oA : Own 1 HA vA w.length (bvs w) := by simpa using hapA.own
                    have ltE := bE.lt
                    have bE := bE.keep kA' (fun h => h)
                    refine zhrun ?_ ?_
                    refine x_buildSlice rfl rfl rfl rfl (by omega) (by simp [oneC, Value.oneCell']) rfl ⟨rfl, rfl⟩ ?_
                    intro HB hnB
                    refine ⟨okm_keep hnB.keep (fun _ _ h => h), ?_⟩
                    have kB : Keep Non H7 HB := hnB.old kA
                    have bB : Blk HB HA.size [kb b] := hnB.blk
                    have oA := oA.keep (S := Non) hnB.keep (fun _ h => h)
                    have bE := bE.keep (S := Non) hnB.keep (fun h => h)
                    refine zhrun ?_ ?_
                    refine x_append (by rfl) (by rfl) (by rfl) rfl rfl rfl oA (isSl_some (Nat.le_refl _) (by omega)) (m := 1) (cx := [kb b]) rfl (bB.cels 0 1 (by simp)) (by simp [oneC, Value.oneCell']) (by omega) rfl ⟨rfl, rfl⟩ ?_
                    intro vC HC hapC
                    refine ⟨okm_keep hapC.keep (fun z hz e => by have := fA (by have := e.2; omega); have := e.1; omega), ?_⟩
                    have kC : Keep Non H7 HC := hapC.old fA kB
                    have bsC : Bs HC vC (w ++ [b]) := (show Own 1 HC vC (w ++ [b]).length (bvs (w ++ [b])) by rw [bvs_append, List.length_append]; exact hapC.own).bs
                    have bE := bE.keep hapC.keep (fun e => by have := fA' (by have := e.2; omega); have := e.1; omega)
                    refine zhrun ?_ ?_
                    refine x_call rfl rfl rfl ⟨rfl, rfl⟩ (ih (i := r.next) (w := w ++ [b]) (by omega) (by omega) (by simp only [List.length_append, List.length_cons, List.length_nil]; omega) (CR.keepN hC7 kC) bsC (by have := kC.size; omega)) ?_
                    rintro _ HD ⟨hkD, vx, rfl, hVx⟩
                    refine ⟨okm_keep hkD (fun _ _ h => h), ?_⟩
                    have kD : Keep Non H7 HD := kC.non_trans hkD
                    have szD : H7.size ≤ HC.size := kC.size
                    have ltE2 := bE.lt
                    have bE := bE.keep hkD (fun h => h)
                    refine zhrun ?_ ?_
                    have sVx := hVx.ps.sl
                    refine x_stores rfl rfl rfl rfl (oc_cons (isSl_oneC sVx) (oc_cons rfl (oc_cons rfl (oc_cons rfl oc_nil)))) bE (by simp [zR]) ⟨rfl, rfl⟩ ?_
                    intro HS hBS hkS hsS
                    have aeq : ∀ z, z = H7.size → H7.size ≤ z := fun z e => by omega
                    refine ⟨okm_keep hkS (fun z hz e => by have := aeq z e; omega), ?_⟩
                    refine zhrun ?_ ?_
                    refine zrun ?_ ?_
                    exact nw_meet (H7.size, vx) (by repeat (first | exact True.intro | refine ⟨rfl, ?_⟩)) ⟨keep_at kD hkS geE, hBS, (hVx.mono szD).keep hkS (fun hc e => by have := hVx.fresh hc; have e : sb vx = H7.size := e; omega) (fun z hz e => by have := aeq z e; omega), geE⟩
                  · refine x_buildSlice rfl rfl rfl rfl (by omega) (by simp [oneC, Value.oneCell']) rfl ⟨rfl, rfl⟩ ?_
                    intro HB hnB
                    refine ⟨okm_keep hnB.keep (fun _ _ h => h), ?_⟩
                    have kB : Keep Non H7 HB := hnB.old kE
                    have bB : Blk HB HE.size [kb b] := hnB.blk
                    have bE := bE.keep (S := Non) hnB.keep (fun h => h)
                    refine zhrun ?_ ?_
                    refine x_append (by rfl) (by rfl) (by rfl) rfl rfl rfl (Own.nil 1 HB) sW (by rw [bvs_length, Nat.mul_one]) (hW7.keepN kB).at_ (bvs_oneC _) (by omega) rfl ⟨rfl, rfl⟩ ?_
                    intro vA HA hapA
                    refine ⟨okm_keep (hapA.old (Fresh.nil HB) (Keep.refl _ _)) (fun _ _ h => h), ?_⟩
                    have kA : Keep Non H7 HA := hapA.old (Fresh.nil H7) kB
                    have kA' : Keep Non HB HA := hapA.old (Fresh.nil HB) (Keep.refl _ _)
                    have fA : 0 < sc vA → H7.size ≤ sb vA := hapA.fresh (Fresh.nil H7) kB.size
                    have fA' : 0 < sc vA → HB.size ≤ sb vA := hapA.fresh (Fresh.nil HB) (Nat.le_refl _)
                    have oA : Own 1 HA vA w.length (bvs w) := by simpa using hapA.own
                    have bB := bB.keep kA' (fun h => h)
                    have ltE := bE.lt
                    have bE := bE.keep kA' (fun h => h)
                    refine zhrun ?_ ?_
                    refine x_append (by rfl) (by rfl) (by rfl) rfl rfl rfl oA (isSl_some (Nat.le_refl _) (by omega)) (m := 1) (cx := [kb b]) rfl (bB.cels 0 1 (by simp)) (by simp [oneC, Value.oneCell']) (by omega) rfl ⟨rfl, rfl⟩ ?_
                    intro vC HC hapC
                    refine ⟨okm_keep hapC.keep (fun z hz e => by have := fA (by have := e.2; omega); have := e.1; omega), ?_⟩
                    have kC : Keep Non H7 HC := hapC.old fA kA
                    have bsC : Bs HC vC (w ++ [b]) := (show Own 1 HC vC (w ++ [b]).length (bvs (w ++ [b])) by rw [bvs_append, List.length_append]; exact hapC.own).bs
                    have bE := bE.keep hapC.keep (fun e => by have := fA' (by have := e.2; omega); have := e.1; omega)
                    refine zhrun ?_ ?_
                    refine x_call rfl rfl rfl ⟨rfl, rfl⟩ (ih (i := r.next) (w := w ++ [b]) (by omega) (by omega) (by simp only [List.length_append, List.length_cons, List.length_nil]; omega) (CR.keepN hC7 kC) bsC (by have := kC.size; omega)) ?_
                    rintro _ HD ⟨hkD, vx, rfl, hVx⟩
                    refine ⟨okm_keep hkD (fun _ _ h => h), ?_⟩
                    have kD : Keep Non H7 HD := kC.non_trans hkD
                    have szD : H7.size ≤ HC.size := kC.size
                    have ltE2 := bE.lt
                    have bE := bE.keep hkD (fun h => h)
                    refine zhrun ?_ ?_
                    have sVx := hVx.ps.sl
                    refine x_stores rfl rfl rfl rfl (oc_cons (isSl_oneC sVx) (oc_cons rfl (oc_cons rfl (oc_cons rfl oc_nil)))) bE (by simp [zR]) ⟨rfl, rfl⟩ ?_
                    intro HS hBS hkS hsS
                    have aeq : ∀ z, z = H7.size → H7.size ≤ z := fun z e => by omega
                    refine ⟨okm_keep hkS (fun z hz e => by have := aeq z e; omega), ?_⟩
                    refine zhrun ?_ ?_
                    refine zrun ?_ ?_
                    exact nw_meet (H7.size, vx) (by repeat (first | exact True.intro | refine ⟨rfl, ?_⟩)) ⟨keep_at kD hkS geE, hBS, (hVx.mono szD).keep hkS (fun hc e => by have := hVx.fresh hc; have e : sb vx = H7.size := e; omega) (fun z hz e => by have := aeq z e; omega), geE⟩
              rintro ⟨ax, vx⟩ H8 ⟨hk78, hB14, hVx, hax⟩
              rw [← hX'] at hkr hB14 hVx
              dsimp only at hB14 hVx hax ⊢
              have h0 : cel H8 ax 0 = some vx := by rw [hB14.cel]; rfl
              have h1 : cel H8 ax 1 = some (.int .i64 X.next) := by rw [hB14.cel]; rfl
              have h2 : cel H8 ax 2 = some (.int .i64 X.deep) := by rw [hB14.cel]; rfl
              have h3 : cel H8 ax 3 = some (.bool X.ok) := by rw [hB14.cel]; rfl
              have hk08 := hk07.non_trans hk78
              have hB68 := hB67.keep hk78 (fun h => h)
              have hB18 := hB17.keep hk78 (fun h => h)
              refine zrun ?_ ?_
              refine x_load rfl rfl (hpmt (h3)) rfl trivial ?_
              refine zrun ?_ ?_
              refine cw_cond rfl (fun hXok => ?_) (fun hXok => ?_) <;> (try simp at hXok)
              · rw [hXok] at hkr
                have hnone : none = res := hkr
                rw [← hnone] at hRc
                have hz : R = {} := hRc
                refine zrun ?_ ?_
                refine x_build (cs := [.slice none 0 0, .int .i64 0, .int .i64 0, .bool false]) rfl rfl rfl ocp_nil rfl trivial ?_
                refine x_stores rfl rfl rfl rfl (by simp [oneC, Value.oneCell']) (hB68) (by simp [zR]) trivial ?_
                intro Hz hBz hkz hsz
                refine ⟨trivial, ?_⟩
                refine zrun ?_ ?_
                exact cw_retc rfl rfl rfl (hBz.cels 0 4 (by simp [putL, zR])) ⟨keep_at (hk08) hkz (Nat.le_refl _), .slice none 0 0, by rw [hz]; rfl, by rw [hz]; exact RdV.nil _ _ _⟩
              · rw [if_pos hXok] at hkr
                have hV8 := hV7.keepN hk78
                have f0' := hk78.cel f0 (fun h => h)
                have f2' := hk78.cel f2 (fun h => h)
                have hfv := hV8.fresh
                have hltv : 0 < sc v → sb v < H7.size := fun hc => let ⟨_, o, _⟩ := hV7.row; o.lt hc
                have sV := hV8.ps.sl
                have sVx := hVx.ps.sl
                obtain ⟨q, ho, hq⟩ := id hV8.row
                obtain ⟨qx, hox, hqx⟩ := id hVx.row
                have hrl : r.P.length ≤ 1000000 := by have := (hheld hrok).2.2; have := manys_le l r.next; omega
                have hxl : X.P.length ≤ 1000000 := by rw [hX']; have := readB_P f l r.next (w ++ [b]); omega
                have hkr8 := Keep.refl (fun z => z = sb v ∧ 0 < sc v) H8
                have hv11 : ¬ (H3.size = sb v ∧ 0 < sc v) := fun e => by have := hfv e.2; omega
                have hv14 : ¬ (ax = sb v ∧ 0 < sc v) := fun e => by have := hltv e.2; omega
                refine zrunc ?_ ?_
                refine cw_held (fun _ => Keep (fun z => z = sb v ∧ 0 < sc v) H8) ⟨[4, 13], [(1, 0), (3, 0), (6, 0), (8, 0), (10, 0)]⟩ (.op 0 (.op 1 (.op 2 (.op 3 (.op 5 (.op 6 (.op 7 (.op 8 (.op 9 (.op 10 (.op 11 (.op 4 (.op 12 (.op 13 (.nil))))))))))))))) panicOk_body mixed (by kernel_rfl) ?_
                refine zhrun ?_ ?_
                refine x_load rfl rfl (hpmk rfl (fun _ hk => hk.cel f0' hv11)) rfl (okq_load rfl rfl (by assumption)) ?_
                refine zhrun ?_ ?_
                refine x_load rfl rfl (hpmk rfl (fun _ hk => hk.cel h0 hv14)) rfl (okq_load rfl rfl (by assumption)) ?_
                refine zhrun ?_ ?_
                refine x_load rfl rfl (hpmk rfl (fun _ hk => hk.cel h1 hv14)) rfl (okq_load rfl rfl (by assumption)) ?_
                refine zhrun ?_ ?_
                refine x_load rfl rfl (hpmk rfl (fun _ hk => hk.cel f2' hv11)) rfl (okq_load rfl rfl (by assumption)) ?_
                refine zhrun ?_ ?_
                refine x_load rfl rfl (hpmk rfl (fun _ hk => hk.cel h2 hv14)) rfl (okq_load rfl rfl (by assumption)) ?_
                refine zhrun ?_ ?_
                refine x_max rfl rfl rfl rfl (okq_reg rfl rfl) ?_
                refine x_append (by rfl) (by rfl) (by rfl) rfl rfl rfl ho sVx (by rw [pcs_length, hqx.len]) hox.cels (pcs_oneC hqx (fun v b h => isSl_oneC h.1.sl)) (by omega) rfl ⟨rfl, rfl⟩ ?_
                intro v9 H9 hap
                refine ⟨okm_keep hap.keep (fun z hz e => ⟨e.1, by have := e.2; omega⟩), ?_⟩
                have hs9 := hap.keep.size
                have hs8 := hk78.size
                have hk39 : Keep Non H3 H9 := (hk37.non_trans hk78).old hap.keep (fun z hz e => by have := hfv (by have := e.2; omega); have := e.1; omega)
                have hoff9 : ∀ z, z < B0 → ¬ (z = sb v ∧ r.P.length + X.P.length ≤ sc v ∧ 0 < X.P.length) := fun z hz e => by have := hfv (by have := e.2; omega); have := e.1; omega
                have hB19 := hB18.keep hap.keep (fun e => by have := hfv (by have := e.2; omega); have := e.1; omega)
                have hf9 := hap.fresh (H0 := H5) hfv (by omega)
                have hO9 : Own 2 H9 v9 (r.P ++ X.P).length (pcs (q ++ qx)) := by rw [List.length_append, pcs_append]; exact hap.own
                have hV9 : RdV B0 H5.size H9 v9 (r.P ++ X.P) := ⟨⟨q ++ qx, hO9, (hq.mono fun _ _ hb => hb.step hap.keep hoff9 (fun _ h => h)).append (hqx.mono fun _ _ hb => hb.step hap.keep hoff9 (fun _ h => h))⟩, hf9⟩
                refine zhrun ?_ ?_
                refine x_build (cs := [v9, .int .i64 X.next, .int .i64 (max r.deep X.deep), .bool true]) rfl rfl rfl (ocp_cons (isSl_oneC hO9.sl) (ocp_cons rfl (ocp_cons rfl (ocp_cons rfl ocp_nil)))) rfl (okq_reg rfl rfl) ?_
                refine x_stores rfl rfl rfl rfl (oc_cons (isSl_oneC hO9.sl) (oc_cons rfl (oc_cons rfl (oc_cons rfl oc_nil)))) hB19 (by simp) ⟨rfl, rfl⟩ ?_
                intro Ha hBa hka hsa
                refine ⟨okm_free (fun c => by cases c <;> kernel_rfl), ?_⟩
                have hXh := readB_held f l r.next (w ++ [b])
                rw [← hX'] at hXh
                refine zhrun ?_ ?_
                refine zrun ?_ ?_
                refine nw_round (k + 1, (b.toNat : Int), ⟨r.P ++ X.P, X.next, max r.deep X.deep, true⟩, v9) (by repeat (first | exact True.intro | refine ⟨rfl, ?_⟩)) ⟨by simp only; omega, ?_, rfl, fun _ => ?_, keep_at hk39 hka (Nat.le_refl _), by omega, hBa, hV9.keep hka (fun hc e => by have := hf9 hc; have e : sb v9 = H3.size := e; omega) (fun z hz e => by have e : z = H3.size := e; omega)⟩ (by simp only; omega)
                · simp only
                  rw [show N - (k + 1) = m by omega]
                  exact hkr
                · have g1 := hheld hrok
                  have g2 := hXh hXok
                  refine ⟨by show i < X.next; omega, g2.2.1, ?_⟩
                  show manys (l.take X.next) = _ + (r.P ++ X.P).length
                  rw [g2.2.2, g1.2.2, List.length_append]
                  omega
          · have hkN2 : k = N := by omega
            subst hkN2
            rw [Nat.sub_self] at hkr
            have hsome : some r = res := hkr
            rw [← hsome] at hRc
            have hRe : R = endB c r := hRc
            have sV := hV7.ps.sl
            have hkl : c.key.length = w.length := by rw [hkey]
            refine zrunc ?_ ?_
            refine cw_cut (fun e : Bool => [(0, vc), (1, .int .i64 i), (2, vw), (6, ptr H.size 0), (7, ptr H1.size 0), (11, ptr H3.size 0), (256, .bool e)]) (fun e H' => H7 = H' ∧ e = !decide (c.count = r.P.length ∧ 4 < c.count ∧ c.key.length ≤ 65535)) ?_ ?_
            · refine zrun ?_ ?_
              refine x_load rfl rfl (hpmt (e2)) rfl trivial ?_
              refine zrun ?_ ?_
              refine x_load rfl rfl (hpmt (f0)) rfl trivial ?_
              refine zrun ?_ ?_
              refine x_split 246 rfl (fun g1 => ?_) (fun g1 => ?_) <;> (try simp at g1)
              · refine zrun ?_ ?_
                exact nw_meet true (by repeat (first | exact True.intro | refine ⟨rfl, ?_⟩)) ⟨rfl, by rw [decide_eq_false (fun h => g1 (by first | exact h.1 | omega))]; rfl⟩
              · refine zrun ?_ ?_
                refine x_load rfl rfl (hpmt (e2)) rfl trivial ?_
                refine zrun ?_ ?_
                refine x_split 251 rfl (fun g2 => ?_) (fun g2 => ?_) <;> (try simp at g2)
                · refine zrun ?_ ?_
                  exact nw_meet true (by repeat (first | exact True.intro | refine ⟨rfl, ?_⟩)) ⟨rfl, by rw [decide_eq_false (fun h => by omega)]; rfl⟩
                · refine zrun ?_ ?_
                  refine x_load rfl rfl (hpmt (e7)) rfl trivial ?_
                  refine zrun ?_ ?_
                  refine x_call rfl rfl rfl trivial (ref_May sK) ?_
                  rintro _ _ ⟨rfl, rfl⟩
                  refine ⟨trivial, ?_⟩
                  refine zrun ?_ ?_
                  refine nw_meet _ (by repeat (first | exact True.intro | refine ⟨rfl, ?_⟩)) ⟨rfl, ?_⟩
                  congr 1
                  exact decide_eq_decide.2 ⟨fun h => ⟨g1, by omega, h⟩, fun h => h.2.2⟩
            rintro e _ ⟨rfl, rfl⟩
            unfold endB at hRe
            by_cases hend : c.count = r.P.length ∧ 4 < c.count ∧ c.key.length ≤ 65535
            · rw [if_pos hend] at hRe
              rw [decide_eq_true hend]
              refine zrun ?_ ?_
              refine x_load rfl rfl (hpmt (f2)) rfl trivial ?_
              refine zrun ?_ ?_
              refine x_store rfl rfl rfl rfl hB17 (by simp) trivial ?_
              intro H8 hB18 hk8 hs8
              refine ⟨trivial, ?_⟩
              have hk08 : Keep Non H H8 := keep_at hk07 hk8 (by omega)
              have hB68 := hB67.keep hk8 (fun e => by have e : H.size = H3.size := e; omega)
              have hV8 := hV7.keep hk8 (fun hc e => by have := hV7.fresh hc; have e : sb v = H3.size := e; omega) (fun z hz e => by have e : z = H3.size := e; omega)
              have hov := isSl_oneC sV
              refine zrun ?_ ?_
              refine x_loads (cs := [v, .int .i64 r.next, .int .i64 (IntKind.i64.wrap (r.deep + 1)), .bool true]) rfl rfl rfl (hpmt (hB18.cels 0 4 (by simp))) rfl trivial ?_
              refine x_stores rfl rfl rfl rfl (oc_cons hov (oc_cons rfl (oc_cons rfl (oc_cons rfl oc_nil)))) hB68 (by simp [zR]) trivial ?_
              intro H9 hB9 hk9 hs9
              refine ⟨trivial, ?_⟩
              refine zrun ?_ ?_
              refine cw_retc rfl rfl rfl (hB9.cels 0 4 (by simp [putL, zR])) ⟨keep_at hk08 hk9 (Nat.le_refl _), v, ?_, ?_⟩
              · rw [hRe, ← hrok]
                rfl
              · rw [hRe]
                exact (hV8.mono (by omega)).keep hk9 (fun hc e => by have := hV8.fresh hc; have e : sb v = H.size := e; omega) (fun z hz e => by have e : z = H.size := e; omega)
            · rw [if_neg hend] at hRe
              rw [decide_eq_false hend]
              refine zrun ?_ ?_
              refine x_build (cs := [.slice none 0 0, .int .i64 0, .int .i64 0, .bool false]) rfl rfl rfl ocp_nil rfl trivial ?_
              refine x_stores rfl rfl rfl rfl (by simp [oneC, Value.oneCell']) (hB67) (by simp [zR]) trivial ?_
              intro Hz hBz hkz hsz
              refine ⟨trivial, ?_⟩
              refine zrun ?_ ?_
              exact cw_retc rfl rfl rfl (hBz.cels 0 4 (by simp [putL, zR])) ⟨keep_at (hk07) hkz (Nat.le_refl _), .slice none 0 0, by rw [hRe]; rfl, by rw [hRe]; exact RdV.nil _ _ _⟩
end Go.Proofs.YtkdmcbacofafpaaDoor.X
