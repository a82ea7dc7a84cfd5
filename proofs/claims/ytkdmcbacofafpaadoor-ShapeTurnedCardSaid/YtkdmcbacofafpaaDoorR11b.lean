/- Chapter 11's document: what it reads of the cells of a ternary tree. -/
import Derived.Test.YtkdmcbacofafpaaDoorR11
namespace Go.Proofs.YtkdmcbacofafpaaDoor.X
open Go Go.Proofs
set_option linter.unusedVariables false
set_option linter.unusedSimpArgs false
set_option maxRecDepth 10000
set_option maxHeartbeats 4000000

theorem kids_bits {x : Int} (h0 : 0 ≤ x) (h7 : x ≤ 7) :
    IntKind.i64.wrap (BitVec.ofInt IntKind.i64.bits x &&& BitVec.ofInt IntKind.i64.bits 1).toNat = x % 2 ∧
    IntKind.i64.wrap (BitVec.ofInt IntKind.i64.bits x &&& BitVec.ofInt IntKind.i64.bits 2).toNat = 2 * (x / 2 % 2) ∧
    IntKind.i64.wrap (BitVec.ofInt IntKind.i64.bits x &&& BitVec.ofInt IntKind.i64.bits 4).toNat = 4 * (x / 4 % 2) := by
  have : x = 0 ∨ x = 1 ∨ x = 2 ∨ x = 3 ∨ x = 4 ∨ x = 5 ∨ x = 6 ∨ x = 7 := by omega
  rcases this with rfl | rfl | rfl | rfl | rfl | rfl | rfl | rfl <;> exact ⟨by decide, by decide, by decide⟩
/-- pairs that were read: a row of the call's own; keys of the cells', or made since Bk -/
structure RdK (B0 Bk Br : Nat) (H : Heap) (v : Value) (P : List Pr) : Prop where
  row : ∃ q, Own 2 H v P.length (pcs q) ∧ Pk (fun k b => Bs H k b ∧ (b ≠ [] → (0 < sc v → sb k ≠ sb v) ∧ (sb k < B0 ∨ Bk ≤ sb k))) q P
  fresh : 0 < sc v → Br ≤ sb v
theorem bs_ne_row {H : Heap} {kk v : Value} {bb : Bytes} {a n m : Nat} {x z : Int} {e : Bool} (hK : Bs H kk bb) (hne : bb ≠ []) (hB : Blk H a [v, .int .i64 x, .int .i64 z, .bool e]) (hv : IsSl v m) : sb kk ≠ a := fun he => by
  obtain ⟨aa, cc, e9, _⟩ := hv
  cases bb with
  | nil => exact hne rfl
  | cons b r =>
    have h1 := hK.get 0 b rfl
    rw [Nat.add_zero, he, hB.cel] at h1
    generalize so kk = o at h1
    match o, h1 with
    | 0, h1 =>
      have h1 : some v = some (bv b) := h1
      injection h1 with h1
      rw [h1] at e9
      cases e9
    | 1, h1 => cases h1
    | 2, h1 => cases h1
    | 3, h1 => cases h1
    | o + 4, h1 => simp at h1
section rdk
variable {B0 Bk Br : Nat} {H H' : Heap} {v : Value} {P : List Pr}
theorem RdK.nil (B0 Bk Br : Nat) (H : Heap) : RdK B0 Bk Br H (.slice none 0 0) [] := ⟨⟨[], Own.nil 2 H, Pk.nil _⟩, fun h => by simp [sc] at h⟩
theorem RdK.ps (h : RdK B0 Bk Br H v P) : Ps H v P := by
  obtain ⟨q, a, b⟩ := h.row
  exact ⟨a.sl, q, b.mono fun _ _ hb => hb.1, a.cels⟩
theorem RdK.keep {S : Nat → Prop} (h : RdK B0 Bk Br H v P) (k : Keep S H H') (h1 : 0 < sc v → ¬ S (sb v)) (h2 : ∀ (kk : Value) (bb : Bytes), Bs H kk bb → bb ≠ [] → (sb kk < B0 ∨ Bk ≤ sb kk) → (0 < sc v → sb kk ≠ sb v) → ¬ S (sb kk)) : RdK B0 Bk Br H' v P := by
  obtain ⟨q, a, b⟩ := h.row
  exact ⟨⟨q, a.keep k h1, b.mono fun _ _ hb => ⟨hb.1.keep k (fun hne => h2 _ _ hb.1 hne (hb.2 hne).2 (hb.2 hne).1), hb.2⟩⟩, h.fresh⟩
theorem RdK.keepN (h : RdK B0 Bk Br H v P) (k : Keep Non H H') : RdK B0 Bk Br H' v P := h.keep k (fun _ h => h) (fun _ _ _ _ _ _ h => h)
theorem RdK.mono {Bk' Br' : Nat} (h : RdK B0 Bk Br H v P) (hk : Bk' ≤ Bk) (hr : Br' ≤ Br) : RdK B0 Bk' Br' H v P := by
  obtain ⟨q, a, b⟩ := h.row
  exact ⟨⟨q, a, b.mono fun _ _ hb => ⟨hb.1, fun hne => ⟨(hb.2 hne).1, (hb.2 hne).2.imp (fun h => h) (fun h => Nat.le_trans hk h)⟩⟩⟩, fun hc => Nat.le_trans hr (h.fresh hc)⟩
/-- one behind the other -/
theorem RdK.app {v' : Value} {Px : List Pr} {q qx : List (Value × Int)} (ho : Own 2 H v P.length (pcs q)) (hq : Pk (fun k b => Bs H k b ∧ (b ≠ [] → (0 < sc v → sb k ≠ sb v) ∧ (sb k < B0 ∨ Bk ≤ sb k))) q P) (hf : 0 < sc v → Br ≤ sb v)
    (hqx : Pk (fun k b => Bs H k b ∧ (b ≠ [] → (0 < sc v → sb k ≠ sb v) ∧ (sb k < B0 ∨ Bk ≤ sb k))) qx Px) (hap : App 2 H H' v v' P.length (pcs q) (pcs qx) Px.length) (hs : Br ≤ H.size) : RdK B0 Bk Br H' v' (P ++ Px) := by
  have hoff : ∀ {z : Nat}, (0 < sc v → z ≠ sb v) → ¬ (z = sb v ∧ P.length + Px.length ≤ sc v ∧ 0 < Px.length) := fun h e => h (by have := e.2; omega) e.1
  have hone : ∀ {k : Value} {b : Bytes}, (Bs H k b ∧ (b ≠ [] → (0 < sc v → sb k ≠ sb v) ∧ (sb k < B0 ∨ Bk ≤ sb k))) → (Bs H' k b ∧ (b ≠ [] → (0 < sc v' → sb k ≠ sb v') ∧ (sb k < B0 ∨ Bk ≤ sb k))) := fun hb => by
    refine ⟨hb.1.keep hap.keep (fun hne => hoff (hb.2 hne).1), fun hne => ⟨fun hc e => ?_, (hb.2 hne).2⟩⟩
    rcases hap.place with ⟨e1, _, e3, e4, _⟩ | ⟨e1, _⟩
    · exact (hb.2 hne).1 (by omega) (by omega)
    · have := hb.1.lt hne; omega
  refine ⟨⟨q ++ qx, ?_, (hq.mono fun _ _ hb => hone hb).append (hqx.mono fun _ _ hb => hone hb)⟩, fun hc => ?_⟩
  · rw [List.length_append, pcs_append]; exact hap.own
  · rcases hap.place with ⟨e1, _, e3, e4, _⟩ | ⟨e1, _⟩
    · rw [e1]; exact hf (by omega)
    · omega
end rdk
/-- what a call that reads answers, its keys new -/
def ReadK (B0 : Nat) (o : Option PT) (H : Heap) (r : Value) (H' : Heap) : Prop := Keep Non H H' ∧ ∃ v n d P, r = .agg [v, .int .i64 n, .int .i64 d, .bool o.isSome].toArray ∧ RdK B0 H.size H.size H' v P ∧ P.length ≤ 1000000 ∧ ∀ x, o = some x → n = (x.next : Int) ∧ d = (x.deep : Int) ∧ P = x.P
/-- the state of what is read, in memory -/
structure StO (B0 Bk Br : Nat) (H : Heap) (b : Nat) (o : Option PT) (v : Value) (m : Nat) : Prop where
  row : ∃ n d P, Blk H b [v, .int .i64 n, .int .i64 d, .bool o.isSome] ∧ RdK B0 Bk Br H v P ∧ P.length ≤ m ∧ ∀ x, o = some x → n = (x.next : Int) ∧ d = (x.deep : Int) ∧ P = x.P
theorem lowT_none {rd : Nat → Option PT} {c : Cel} {r : PT} (h : ¬ c.kids % 2 = 1) : lowT rd c r = some r := if_neg h
theorem rdT_steps {f : Nat} {l : List Cel} {i : Nat} {way : Bytes} {lo hi : Int} {c : Cel} (hc : l[i]? = some c) (h : TernC c way lo hi) : rdT (f + 1) l i way lo hi =
    ((((lowT (fun n => rdT f l n way lo c.byte.toNat) c ⟨[], i + 1, 0⟩).map (ownT c (way ++ [c.byte]))).bind (midT (fun n => rdT f l n (way ++ [c.byte]) (-1) 256) c)).bind (topT (fun n => rdT f l n way c.byte.toNat hi) c)).bind (endT c) := by
  rw [rdT_some hc, if_pos h]
  cases lowT (fun n => rdT f l n way lo c.byte.toNat) c ⟨[], i + 1, 0⟩ with
  | none => rfl
  | some r1 =>
    simp only [Option.bind_some, Option.map_some]
    cases midT (fun n => rdT f l n (way ++ [c.byte]) (-1) 256) c (ownT c (way ++ [c.byte]) r1) with
    | none => rfl
    | some r3 =>
      simp only [Option.bind_some]

theorem ref11_Tern {l : List Cel} {vc : Value} {B0 : Nat} (hok : CelsOk l) : ∀ (f : Nat) {i : Nat} {way : Bytes} {vw : Value} {lo hi : Int} {H : Heap}, 0 < f → l.length < i + f → CR B0 H vc l → Bs H vw way → B0 ≤ H.size →
    Ret Tryd.prog 45 [vc, .int .i64 i, vw, .int .i64 lo, .int .i64 hi] H (ReadK B0 (rdT f l i way lo hi) H) := by
  intro f
  induction f with
  | zero =>
    intro i way vw lo hi H hf0
    omega
  | succ f ih =>
    intro i way vw lo hi H hf0 hf hC hW hB
    have sC := hC.sl
    have cC := sC.cap
    have sW := hW.sl
    have cW := sW.cap
    have hll := hok.len
    obtain ⟨R, hR⟩ : ∃ R, R = rdT (f + 1) l i way lo hi := ⟨_, rfl⟩
    rw [← hR]
    refine ret_of Tryd.func45 rfl rfl rfl rfl ?_
    intro w0
    refine zrun ?_ ?_
    refine x_alloc rfl rfl trivial ?_
    intro H1 hn1
    refine ⟨trivial, ?_⟩
    have hC1 := CR.keepN hC hn1.keep
    have hB6 : Blk H1 H.size zR := hn1.blk
    have hs1 := hn1.size
    have hk1 := hn1.keep
    refine zrun ?_ ?_
    refine cw_cond rfl (fun h1 => ?_) (fun h1 => ?_) <;> (try simp at h1)
    · have hn : l[i]? = none := List.getElem?_eq_none (by omega)
      have hz : R = none := by rw [hR, rdT_none hn]
      refine zrun ?_ ?_
      refine x_build (cs := [.slice none 0 0, .int .i64 0, .int .i64 0, .bool false]) rfl rfl rfl ocp_nil rfl trivial ?_
      refine x_stores rfl rfl rfl rfl (by simp [oneC, Value.oneCell']) (hB6) (by simp [zR]) trivial ?_
      intro Hz hBz hkz hsz
      refine ⟨trivial, ?_⟩
      refine zrun ?_ ?_
      exact cw_retc rfl rfl rfl (hBz.cels 0 4 (by simp [putL, zR])) ⟨keep_at (hk1) hkz (Nat.le_refl _), .slice none 0 0, 0, 0, [], by rw [hz]; rfl, RdK.nil _ _ _ _, Nat.zero_le _, fun x hx => by rw [hz] at hx; cases hx⟩
    · obtain ⟨c, hc⟩ : ∃ c, l[i]? = some c := ⟨_, List.getElem?_eq_getElem (by omega)⟩
      obtain ⟨y, hy, hcels⟩ := Rd.cels hC1 encC_len hc
      have hyc := hy.1
      have hilt : i < l.length := (List.getElem?_eq_some_iff.1 hc).1
      refine zrun ?_ ?_
      refine x_loads (cs := encC y) rfl rfl rfl (hpmt hcels) rfl trivial ?_
      refine x_alloc rfl rfl trivial ?_
      intro H2 hn2
      refine ⟨trivial, ?_⟩
      refine x_stores rfl rfl rfl rfl (CelR.oneC hy) hn2.blk (by simp [encC]) trivial ?_
      intro H3 hB7 hk3 hs3
      refine ⟨trivial, ?_⟩
      have hs2 := hn2.size
      have hk13 : Keep Non H1 H3 := keep_at hn2.keep hk3 (Nat.le_refl _)
      have hk03 := hk1.non_trans hk13
      have hC3 := CR.keepN hC hk03
      have hB63 : Blk H3 H.size zR := hB6.keep hk13 (fun h => h)
      have hy3 : CelR (fun z => z < B0) H3 y c := hy.step hk13 (fun _ _ h => h) (fun _ h => h)
      have D := celD_of (hB7 : Blk H3 H1.size (encC y)) hyc
      have sK := hy3.2.1.1.sl
      have sP := hy3.2.2.1.sl
      have cK := sK.cap
      have cP := sP.cap
      have hb256 := c.byte.toNat_lt
      refine zrun ?_ ?_
      refine x_load rfl rfl (hpmt (D.d4)) rfl trivial ?_
      refine x_conv_int rfl rfl rfl trivial ?_
      rw [wrap_i64 (by omega) (by omega)]
      refine zrunc ?_ ?_
      refine cw_cut (fun e : Bool => [(0, vc), (1, .int .i64 i), (2, vw), (3, .int .i64 lo), (4, .int .i64 hi), (10, ptr H.size 0), (11, ptr H1.size 0), (12, .int .i64 (c.byte.toNat : Int)), (92, .bool e)]) (fun e H' => H3 = H' ∧ (e = true → ¬ TernC c way lo hi) ∧ (e = false → TernC c way lo hi)) ?_ ?_
      · refine zrun ?_ ?_
        refine x_load rfl rfl (hpmt (D.d0)) rfl trivial ?_
        refine zrun ?_ ?_
        refine x_split 33 rfl (fun g1 => ?_) (fun g1 => ?_) <;> (try simp at g1)
        · refine zrun ?_ ?_
          exact nw_meet true (by repeat (first | exact True.intro | refine ⟨rfl, ?_⟩)) ⟨rfl, (fun _ h => by exact g1 h.kind), (fun e => by cases e)⟩
        · refine zrun ?_ ?_
          refine x_split 38 rfl (fun g2 => ?_) (fun g2 => ?_) <;> (try simp at g2)
          · refine zrun ?_ ?_
            exact nw_meet true (by repeat (first | exact True.intro | refine ⟨rfl, ?_⟩)) ⟨rfl, (fun _ h => by have := h.lo; omega), (fun e => by cases e)⟩
          · refine zrun ?_ ?_
            refine x_split 43 rfl (fun g3 => ?_) (fun g3 => ?_) <;> (try simp at g3)
            · refine zrun ?_ ?_
              exact nw_meet true (by repeat (first | exact True.intro | refine ⟨rfl, ?_⟩)) ⟨rfl, (fun _ h => by have := h.hi; omega), (fun e => by cases e)⟩
            · refine zrun ?_ ?_
              refine x_load rfl rfl (hpmt (D.d1)) rfl trivial ?_
              refine zrun ?_ ?_
              refine x_split 50 rfl (fun g4 => ?_) (fun g4 => ?_) <;> (try simp at g4)
              · refine zrun ?_ ?_
                exact nw_meet true (by repeat (first | exact True.intro | refine ⟨rfl, ?_⟩)) ⟨rfl, (fun _ h => by exact g4 h.at_), (fun e => by cases e)⟩
              · refine zrun ?_ ?_
                refine x_load rfl rfl (hpmt (D.d7)) rfl trivial ?_
                refine zrun ?_ ?_
                refine x_split 56 rfl (fun g5 => ?_) (fun g5 => ?_) <;> (try simp at g5)
                · refine zrun ?_ ?_
                  exact nw_meet true (by repeat (first | exact True.intro | refine ⟨rfl, ?_⟩)) ⟨rfl, (fun _ h => by rw [h.key] at g5; simp at g5), (fun e => by cases e)⟩
                · refine zrun ?_ ?_
                  refine x_load rfl rfl (hpmt (D.d8)) rfl trivial ?_
                  refine zrun ?_ ?_
                  refine x_split 62 rfl (fun g6 => ?_) (fun g6 => ?_) <;> (try simp at g6)
                  · refine zrun ?_ ?_
                    exact nw_meet true (by repeat (first | exact True.intro | refine ⟨rfl, ?_⟩)) ⟨rfl, (fun _ h => by rw [h.pairs] at g6; simp at g6), (fun e => by cases e)⟩
                  · refine zrun ?_ ?_
                    refine x_load rfl rfl (hpmt (D.d3)) rfl trivial ?_
                    refine zrun ?_ ?_
                    refine x_split 67 rfl (fun g7 => ?_) (fun g7 => ?_) <;> (try simp at g7)
                    · refine zrun ?_ ?_
                      exact nw_meet true (by repeat (first | exact True.intro | refine ⟨rfl, ?_⟩)) ⟨rfl, (fun _ h => by have := h.kids.1; omega), (fun e => by cases e)⟩
                    · refine zrun ?_ ?_
                      refine x_load rfl rfl (hpmt (D.d3)) rfl trivial ?_
                      refine zrun ?_ ?_
                      refine x_split 72 rfl (fun g8 => ?_) (fun g8 => ?_) <;> (try simp at g8)
                      · refine zrun ?_ ?_
                        exact nw_meet true (by repeat (first | exact True.intro | refine ⟨rfl, ?_⟩)) ⟨rfl, (fun _ h => by have := h.kids.2; omega), (fun e => by cases e)⟩
                      · have hkb := kids_bits (x := c.kids) (by omega) (by omega)
                        have hk0 : c.key = [] := by first | exact g5 | exact List.length_eq_zero_iff.1 (by omega)
                        have hp0 : c.pairs = [] := by first | exact g6 | exact List.length_eq_zero_iff.1 (by omega)
                        refine zrun ?_ ?_
                        refine x_load rfl rfl (hpmt (D.d5)) rfl trivial ?_
                        refine zrun ?_ ?_
                        refine x_split 76 rfl (fun g9 => ?_) (fun g9 => ?_) <;> (try simp at g9)
                        · refine zrun ?_ ?_
                          refine x_load rfl rfl (hpmt (D.d6)) rfl trivial ?_
                          refine zrun ?_ ?_
                          refine x_split 80 rfl (fun g10 => ?_) (fun g10 => ?_) <;> (try simp at g10)
                          · refine zrun ?_ ?_
                            exact nw_meet true (by repeat (first | exact True.intro | refine ⟨rfl, ?_⟩)) ⟨rfl, (fun _ h => by rcases h.full with h | h <;> simp_all), (fun e => by cases e)⟩
                          · refine zrun ?_ ?_
                            refine x_load rfl rfl (hpmt (D.d3)) rfl trivial ?_
                            refine zrun ?_ ?_
                            rw [hkb.2.1]
                            refine x_split 88 rfl (fun g11 => ?_) (fun g11 => ?_) <;> (try simp at g11)
                            · refine zrun ?_ ?_
                              exact nw_meet true (by repeat (first | exact True.intro | refine ⟨rfl, ?_⟩)) ⟨rfl, (fun _ h => by rcases h.full with h | h <;> first | (rw [h] at g9; cases g9) | omega), (fun e => by cases e)⟩
                            · refine zrun ?_ ?_
                              exact nw_meet _ (by repeat (first | exact True.intro | refine ⟨rfl, ?_⟩)) ⟨rfl, (fun e h => by have := of_decide_eq_true e; have := h.way; omega), (fun e => ⟨g1, by omega, by omega, g4, hk0, hp0, ⟨by omega, by omega⟩, .inr ⟨g10, by omega⟩, by have := of_decide_eq_false e; omega⟩)⟩
                        · refine zrun ?_ ?_
                          exact nw_meet _ (by repeat (first | exact True.intro | refine ⟨rfl, ?_⟩)) ⟨rfl, (fun e h => by have := of_decide_eq_true e; have := h.way; omega), (fun e => ⟨g1, by omega, by omega, g4, hk0, hp0, ⟨by omega, by omega⟩, .inl g9, by have := of_decide_eq_false e; omega⟩)⟩
      rintro e _ ⟨rfl, ht, hfl⟩
      cases e with
      | true =>
        have hz : R = none := by rw [hR, rdT_some hc, if_neg (ht rfl)]
        refine zrun ?_ ?_
        refine x_build (cs := [.slice none 0 0, .int .i64 0, .int .i64 0, .bool false]) rfl rfl rfl ocp_nil rfl trivial ?_
        refine x_stores rfl rfl rfl rfl (by simp [oneC, Value.oneCell']) (hB63) (by simp [zR]) trivial ?_
        intro Hz hBz hkz hsz
        refine ⟨trivial, ?_⟩
        refine zrun ?_ ?_
        exact cw_retc rfl rfl rfl (hBz.cels 0 4 (by simp [putL, zR])) ⟨keep_at (hk03) hkz (Nat.le_refl _), .slice none 0 0, 0, 0, [], by rw [hz]; rfl, RdK.nil _ _ _ _, Nat.zero_le _, fun x hx => by rw [hz] at hx; cases hx⟩
      | false =>
        have hT := hfl rfl
        have hR0 := hR
        rw [rdT_steps hc hT] at hR
        have hkb := kids_bits hT.kids.1 hT.kids.2
        have hW3 := hW.keepN hk03
        have hwl := hT.way
        refine zrunc ?_ ?_
        refine cw_cut (fun v : Value => [(0, vc), (1, .int .i64 i), (2, vw), (3, .int .i64 lo), (4, .int .i64 hi), (10, ptr H.size 0), (11, ptr H1.size 0), (12, .int .i64 (c.byte.toNat : Int)), (13, v)]) (fun v H' => Keep Non H3 H' ∧ Bs H' v (way ++ [c.byte]) ∧ H3.size ≤ sb v) ?_ ?_
        · have hkr3 := Keep.refl Non H3
          refine cw_held (fun _ => Keep Non H3) ⟨[1, 4, 5], [(3, 0)]⟩ (.op 0 (.op 2 (.op 3 (.alt (.op 1 (.op 4 (.op 5 (.op 6 (.nil))))) (.op 4 (.op 1 (.op 5 (.op 6 (.nil))))))))) panicOk_body mixed (by kernel_rfl) ?_
          refine zhrun ?_ ?_
          refine x_load rfl rfl (hpmk rfl (fun _ hk => hk.cel D.d4 (fun h => h))) rfl (okq_load rfl rfl (by assumption)) ?_
          refine zhrun ?_ ?_
          refine x_alt ?_ ?_
          · refine x_append (by rfl) (by rfl) (by rfl) rfl rfl rfl (Own.nil 1 H3) sW (by rw [bvs_length, Nat.mul_one]) (hW3.keepN hkr3).at_ (bvs_oneC _) (by omega) rfl ⟨rfl, rfl⟩ ?_
            intro vA HA hapA
            refine ⟨okm_keep (hapA.old (Fresh.nil H3) (Keep.refl _ _)) (fun _ _ h => h), ?_⟩
            have kA : Keep Non H3 HA := hapA.old (Fresh.nil H3) hkr3
            have fA := hapA.fresh (Fresh.nil H3) hkr3.size
            have oA : Own 1 HA vA way.length (bvs way) := by simpa using hapA.own
            refine zhrun ?_ ?_
            refine x_buildSlice rfl rfl rfl rfl (by omega) (by simp [oneC, Value.oneCell']) rfl ⟨rfl, rfl⟩ ?_
            intro HB hnB
            refine ⟨okm_keep hnB.keep (fun _ _ h => h), ?_⟩
            have kB : Keep Non H3 HB := hnB.old kA
            have bB : Blk HB HA.size [kb c.byte] := hnB.blk
            have oA := oA.keep (S := Non) hnB.keep (fun _ h => h)
            refine zhrun ?_ ?_
            refine x_append (by rfl) (by rfl) (by rfl) rfl rfl rfl oA (isSl_some (Nat.le_refl _) (by omega)) (m := 1) (cx := [kb c.byte]) rfl (bB.cels 0 1 (by simp)) (by simp [oneC, Value.oneCell']) (by omega) rfl ⟨rfl, rfl⟩ ?_
            intro vC HC hapC
            refine ⟨okm_keep hapC.keep (fun z hz e => by have := fA (by have := e.2; omega); have := e.1; omega), ?_⟩
            have oC : Own 1 HC vC (way ++ [c.byte]).length (bvs (way ++ [c.byte])) := by rw [bvs_append, List.length_append]; exact hapC.own
            have fC := hapC.fresh fA kB.size
            refine zhrun ?_ ?_
            refine zrun ?_ ?_
            exact nw_meet vC (by repeat (first | exact True.intro | refine ⟨rfl, ?_⟩)) ⟨hapC.old fA kB, oC.bs, fC (by have := oC.sl.cap.1; simp at this; omega)⟩
          · refine x_buildSlice rfl rfl rfl rfl (by omega) (by simp [oneC, Value.oneCell']) rfl ⟨rfl, rfl⟩ ?_
            intro HB hnB
            refine ⟨okm_keep hnB.keep (fun _ _ h => h), ?_⟩
            have kB : Keep Non H3 HB := hnB.old hkr3
            have bB : Blk HB H3.size [kb c.byte] := hnB.blk
            refine zhrun ?_ ?_
            refine x_append (by rfl) (by rfl) (by rfl) rfl rfl rfl (Own.nil 1 HB) sW (by rw [bvs_length, Nat.mul_one]) (hW3.keepN kB).at_ (bvs_oneC _) (by omega) rfl ⟨rfl, rfl⟩ ?_
            intro vA HA hapA
            refine ⟨okm_keep (hapA.old (Fresh.nil HB) (Keep.refl _ _)) (fun _ _ h => h), ?_⟩
            have kA : Keep Non H3 HA := hapA.old (Fresh.nil H3) kB
            have fA := hapA.fresh (Fresh.nil H3) kB.size
            have oA : Own 1 HA vA way.length (bvs way) := by simpa using hapA.own
            have bB := bB.keep (S := Non) (hapA.old (Fresh.nil HB) (Keep.refl _ _)) (fun h => h)
            refine zhrun ?_ ?_
            refine x_append (by rfl) (by rfl) (by rfl) rfl rfl rfl oA (isSl_some (Nat.le_refl _) (by omega)) (m := 1) (cx := [kb c.byte]) rfl (bB.cels 0 1 (by simp)) (by simp [oneC, Value.oneCell']) (by omega) rfl ⟨rfl, rfl⟩ ?_
            intro vC HC hapC
            refine ⟨okm_keep hapC.keep (fun z hz e => by have := fA (by have := e.2; omega); have := e.1; omega), ?_⟩
            have oC : Own 1 HC vC (way ++ [c.byte]).length (bvs (way ++ [c.byte])) := by rw [bvs_append, List.length_append]; exact hapC.own
            have fC := hapC.fresh fA kA.size
            refine zhrun ?_ ?_
            refine zrun ?_ ?_
            exact nw_meet vC (by repeat (first | exact True.intro | refine ⟨rfl, ?_⟩)) ⟨hapC.old fA kA, oC.bs, fC (by have := oC.sl.cap.1; simp at this; omega)⟩
        rintro v13 H4 ⟨hk34, hK13, hf13⟩
        have hk04 := hk03.non_trans hk34
        have hs34 := hk34.size
        have hs04 := hk04.size
        have hlt13 := hK13.lt (by simp)
        have D4 := D.keepN hk34
        have hB64 := hB63.keep hk34 (fun h => h)
        refine zrun ?_ ?_
        refine x_build (cs := [.slice none 0 0, .int .i64 (i + 1), .int .i64 0, .bool true]) rfl rfl rfl (ocp_cons rfl (ocp_cons rfl ocp_nil)) rfl trivial ?_
        refine x_alloc rfl rfl trivial ?_
        intro H5 hn5
        refine ⟨trivial, ?_⟩
        refine x_stores rfl rfl rfl rfl (by simp [oneC, Value.oneCell']) hn5.blk (by simp) trivial ?_
        intro H6 hB14 hk6 hs6
        refine ⟨trivial, ?_⟩
        have hs5 := hn5.size
        have hk46 : Keep Non H4 H6 := keep_at hn5.keep hk6 (Nat.le_refl _)
        have hS0 : StO B0 H.size H5.size H6 H4.size (some ⟨[], i + 1, 0⟩) (.slice none 0 0) 0 := ⟨(i : Int) + 1, 0, [], hB14, RdK.nil _ _ _ _, Nat.le_refl 0, fun x hx => by injection hx with hx; subst hx; exact ⟨rfl, rfl, rfl⟩⟩
        obtain ⟨o0, ho0⟩ : ∃ o0 : Option PT, o0 = some ⟨[], i + 1, 0⟩ := ⟨_, rfl⟩
        rw [← ho0] at hS0
        have hn0 : ∀ r, o0 = some r → i < r.next ∧ r.next ≤ l.length := fun r hr => by rw [ho0] at hr; injection hr with hr; subst hr; exact ⟨Nat.lt_succ_self i, hilt⟩
        obtain ⟨o1, ho1⟩ : ∃ o1, o1 = o0.bind (lowT (fun n => rdT f l n way lo c.byte.toNat) c) := ⟨_, rfl⟩
        obtain ⟨o2, ho2⟩ : ∃ o2, o2 = o1.map (ownT c (way ++ [c.byte])) := ⟨_, rfl⟩
        obtain ⟨o3, ho3⟩ : ∃ o3, o3 = o2.bind (midT (fun n => rdT f l n (way ++ [c.byte]) (-1) 256) c) := ⟨_, rfl⟩
        obtain ⟨o4, ho4⟩ : ∃ o4, o4 = o3.bind (topT (fun n => rdT f l n way c.byte.toNat hi) c) := ⟨_, rfl⟩
        have hRe : R = o4.bind (endT c) := by rw [hR, ho4, ho3, ho2, ho1, ho0]; rfl
        clear hR
        obtain ⟨v1, hv1⟩ : ∃ v1 : Value, v1 = .slice none 0 0 := ⟨_, rfl⟩
        rw [← hv1] at hS0
        obtain ⟨n1, d1, P1, hBk1, hV1, hPl1, hx1⟩ := hS0.row
        have e0 : cel H6 H4.size 0 = some v1 := by rw [hBk1.cel]; rfl
        have e1 : cel H6 H4.size 1 = some (.int .i64 n1) := by rw [hBk1.cel]; rfl
        have e2 : cel H6 H4.size 2 = some (.int .i64 d1) := by rw [hBk1.cel]; rfl
        have e3 : cel H6 H4.size 3 = some (.bool o0.isSome) := by rw [hBk1.cel]; rfl
        have Dk := D4.keepN hk46
        have hk0 := hk04.non_trans hk46
        refine zrun ?_ ?_
        refine x_load rfl rfl (hpmt (Dk.d3)) rfl trivial ?_
        refine zrun ?_ ?_
        rw [hkb.1]
        refine cw_cut (fun v : Value => [(0, vc), (1, .int .i64 i), (2, vw), (3, .int .i64 lo), (4, .int .i64 hi), (10, ptr H.size 0), (11, ptr H1.size 0), (12, .int .i64 (c.byte.toNat : Int)), (13, v13), (14, ptr H4.size 0)]) (fun v H' => Keep Non H4 H' ∧ StO B0 H.size H5.size H' H4.size o1 v 1000000 ∧ ∀ r, o1 = some r → i < r.next ∧ r.next ≤ l.length) ?_ ?_
        · refine cw_cond rfl (fun hbit => ?_) (fun hbit => ?_) <;> (try simp at hbit)
          · have hbit1 : c.kids % 2 = 1 := by have := Int.emod_two_eq (c.kids); omega
            obtain ⟨r, hoc⟩ : ∃ r, o0 = some r := ⟨_, ho0⟩
            obtain ⟨z1, z2, z3⟩ := hx1 r hoc
            subst z1 z2 z3
            obtain ⟨hrn, hrl⟩ := hn0 r hoc
            have hon : o1 = stepT r (rdT f l r.next way lo c.byte.toNat) := by rw [ho1, hoc]; exact if_pos hbit1
            refine zrun ?_ ?_
            refine x_load rfl rfl (hpmt (e1)) rfl trivial ?_
            refine zrun ?_ ?_
            refine x_call rfl rfl rfl trivial (ih (i := r.next) (way := way) (lo := lo) (hi := (c.byte.toNat : Int)) (by omega) (by omega) (CR.keepN hC hk0) (hW.keepN hk0) (by have := hk0.size; omega)) ?_
            rintro _ Ha ⟨hka, vx, nx, dx, Px, rfl, hVx, hPxl, hxx⟩
            refine ⟨trivial, ?_⟩
            have hgx := @rdT_good f l r.next way lo c.byte.toNat
            generalize rdT f l r.next way lo c.byte.toNat = ox at hon hxx hgx ⊢
            have hvx := isSl_oneC hVx.ps.sl
            refine zrun ?_ ?_
            refine x_alloc rfl rfl trivial ?_
            intro Hb hnb
            refine ⟨trivial, ?_⟩
            refine x_stores rfl rfl rfl rfl (oc_cons hvx (oc_cons rfl (oc_cons rfl (oc_cons rfl oc_nil)))) hnb.blk (by simp) trivial ?_
            intro Hd hBd hkd hsd
            refine ⟨trivial, ?_⟩
            have hsa := hka.size
            have hsb := hnb.size
            have hs4c := hk46.size
            have hkad : Keep Non Ha Hd := keep_at hnb.keep hkd (Nat.le_refl _)
            have hkcd := hka.non_trans hkad
            have hk4d := hk46.non_trans hkcd
            have x0 : cel Hd Ha.size 0 = some vx := by rw [hBd.cel]; rfl
            have x1 : cel Hd Ha.size 1 = some (.int .i64 nx) := by rw [hBd.cel]; rfl
            have x2 : cel Hd Ha.size 2 = some (.int .i64 dx) := by rw [hBd.cel]; rfl
            have x3 : cel Hd Ha.size 3 = some (.bool ox.isSome) := by rw [hBd.cel]; rfl
            have y0 := hkcd.cel e0 (fun h => h)
            have y2 := hkcd.cel e2 (fun h => h)
            have hBkd := hBk1.keep hkcd (fun h => h)
            have hVd := hV1.keepN hkcd
            have hVxd := hVx.keepN hkad
            obtain ⟨q, hoq, hq⟩ := id hVd.row
            obtain ⟨qx, hoqx, hqx⟩ := id hVxd.row
            have hfv := hVd.fresh
            have hltv : 0 < sc v1 → sb v1 < H6.size := fun hc => let ⟨_, o, _⟩ := hV1.row; o.lt hc
            have sVx := hVxd.ps.sl
            have hkrd := Keep.refl (fun z => z = sb v1 ∧ 0 < sc v1) Hd
            have hv14 : ¬ (H4.size = sb v1 ∧ 0 < sc v1) := fun e => by have := hfv e.2; omega
            have hvx' : ¬ (Ha.size = sb v1 ∧ 0 < sc v1) := fun e => by have := hltv e.2; omega
            refine zrunc ?_ ?_
            refine cw_held (fun _ => Keep (fun z => z = sb v1 ∧ 0 < sc v1) Hd) ⟨[4, 15], [(1, 0), (3, 0), (6, 0), (8, 0), (10, 0), (13, 0)]⟩ (.op 0 (.op 1 (.op 2 (.op 3 (.op 5 (.op 6 (.op 7 (.op 8 (.op 9 (.op 10 (.op 11 (.op 12 (.op 13 (.op 4 (.op 14 (.op 15 (.nil))))))))))))))))) panicOk_body mixed (by kernel_rfl) ?_
            refine zhrun ?_ ?_
            refine x_load rfl rfl (hpmk rfl (fun _ hk => hk.cel y0 hv14)) rfl (okq_load rfl rfl (by assumption)) ?_
            refine zhrun ?_ ?_
            refine x_load rfl rfl (hpmk rfl (fun _ hk => hk.cel x0 hvx')) rfl (okq_load rfl rfl (by assumption)) ?_
            refine zhrun ?_ ?_
            refine x_load rfl rfl (hpmk rfl (fun _ hk => hk.cel x1 hvx')) rfl (okq_load rfl rfl (by assumption)) ?_
            refine zhrun ?_ ?_
            refine x_load rfl rfl (hpmk rfl (fun _ hk => hk.cel y2 hv14)) rfl (okq_load rfl rfl (by assumption)) ?_
            refine zhrun ?_ ?_
            refine x_load rfl rfl (hpmk rfl (fun _ hk => hk.cel x2 hvx')) rfl (okq_load rfl rfl (by assumption)) ?_
            refine zhrun ?_ ?_
            refine x_max rfl rfl rfl rfl (okq_reg rfl rfl) ?_
            refine zhrun ?_ ?_
            refine x_load rfl rfl (hpmk rfl (fun _ hk => hk.cel x3 hvx')) rfl (okq_load rfl rfl (by assumption)) ?_
            refine zhrun ?_ ?_
            refine x_append (by rfl) (by rfl) (by rfl) rfl rfl rfl hoq sVx (by rw [pcs_length, hqx.len]) hoqx.cels (pcs_oneC hqx (fun v b h => isSl_oneC h.1.sl)) (by omega) rfl ⟨rfl, rfl⟩ ?_
            intro v9 He hap
            refine ⟨okm_keep hap.keep (fun z hz e => ⟨e.1, by have := e.2; omega⟩), ?_⟩
            have hse := hap.keep.size
            have hk4e : Keep Non H4 He := hk4d.old hap.keep (fun z hz e => by have := hfv (by have := e.2; omega); have := e.1; omega)
            have hBke := hBkd.keep hap.keep (fun e => hv14 ⟨e.1, by have := e.2; omega⟩)
            have hVe : RdK B0 H.size H5.size He v9 (r.P ++ Px) := RdK.app hoq hq hfv (hqx.mono fun kk b hb => ⟨hb.1, fun hne => ⟨fun hc e => by have := hfv hc; have := hltv hc; rcases (hb.2 hne).2 with h | h <;> omega, (hb.2 hne).2.imp (fun h => h) (fun h => by have := hk0.size; omega)⟩⟩) hap (by omega)
            have hov := isSl_oneC hVe.ps.sl
            refine zhrun ?_ ?_
            refine x_build (cs := [v9, .int .i64 nx, .int .i64 (max (r.deep : Int) dx), .bool ox.isSome]) rfl rfl rfl (ocp_cons hov (ocp_cons rfl (ocp_cons rfl (ocp_cons rfl ocp_nil)))) rfl (okq_reg rfl rfl) ?_
            refine x_stores rfl rfl rfl rfl (oc_cons hov (oc_cons rfl (oc_cons rfl (oc_cons rfl oc_nil)))) hBke (by simp) ⟨rfl, rfl⟩ ?_
            intro Hg hBg hkg hsg
            refine ⟨okm_free (fun c => by cases c <;> kernel_rfl), ?_⟩
            refine zhrun ?_ ?_
            refine zrun ?_ ?_
            refine nw_meet v9 (by repeat (first | exact True.intro | refine ⟨rfl, ?_⟩)) ⟨keep_at hk4e hkg (Nat.le_refl _), ⟨nx, max (r.deep : Int) dx, r.P ++ Px, ?_, hVe.keep hkg (fun hc e => by have := hVe.fresh hc; have e : sb v9 = H4.size := e; omega) (fun kk bb hkk hne _ _ => bs_ne_row (n := 0) hkk hne hBke hVd.ps.sl), by rw [List.length_append]; omega, fun x hx => ?_⟩, fun x hx => ?_⟩
            · rw [hon]; cases ox <;> exact hBg
            · rw [hon] at hx
              cases ox with
              | none => cases hx
              | some x' =>
                obtain ⟨w1, w2, w3⟩ := hxx x' rfl
                injection hx with hx
                subst hx w1 w2 w3
                exact ⟨rfl, by show max (r.deep : Int) (x'.deep : Int) = ((max r.deep x'.deep : Nat) : Int); omega, rfl⟩
            · rw [hon] at hx
              cases ox with
              | none => cases hx
              | some x' =>
                have hg := (hgx rfl).1
                injection hx with hx
                subst hx
                have := hg.lt; have := hg.le
                exact ⟨by show i < x'.next; omega, by show x'.next ≤ _; omega⟩
          · have hbit0 : ¬ c.kids % 2 = 1 := by omega
            have hon : o1 = o0 := by rw [ho1, ho0]; exact if_neg hbit0
            refine zrun ?_ ?_
            exact nw_meet v1 (by repeat (first | exact True.intro | refine ⟨rfl, ?_⟩)) ⟨hk46, ⟨n1, d1, P1, by rw [hon]; exact hBk1, hV1, by omega, fun x hx => hx1 x (by rw [← hon]; exact hx)⟩, fun r hr => hn0 r (by rw [← hon]; exact hr)⟩
        rintro v2 H7 ⟨hk47, hS1, hn1'⟩
        obtain ⟨n5, d5, P5, hBk5, hV5, hPl5, hx5⟩ := hS1.row
        have e0' : cel H7 H4.size 0 = some v2 := by rw [hBk5.cel]; rfl
        have D7 := D4.keepN hk47
        have hs47 := hk47.size
        refine zrun ?_ ?_
        refine x_load rfl rfl (hpmt (D7.d5)) rfl trivial ?_
        refine zrun ?_ ?_
        refine cw_cut (fun _ : Value => [(0, vc), (1, .int .i64 i), (2, vw), (3, .int .i64 lo), (4, .int .i64 hi), (10, ptr H.size 0), (11, ptr H1.size 0), (12, .int .i64 (c.byte.toNat : Int)), (13, v13), (14, ptr H4.size 0)]) (fun v H' => Keep Non H4 H' ∧ StO B0 H.size H5.size H' H4.size o2 v 1000001 ∧ ∀ r, o2 = some r → i < r.next ∧ r.next ≤ l.length) ?_ ?_
        · refine cw_cond rfl (fun hfull => ?_) (fun hfull => ?_) <;> (try simp at hfull)
          · have hK7 := hK13.keepN hk47
            obtain ⟨q, hoq, hq⟩ := id hV5.row
            have hfv := hV5.fresh
            refine zrun ?_ ?_
            refine x_load rfl rfl (hpmt (e0')) rfl trivial ?_
            refine zrun ?_ ?_
            refine x_load rfl rfl (hpmt (D7.d6)) rfl trivial ?_
            refine zrun ?_ ?_
            refine x_build (cs := [v13, .int .u64 c.val]) rfl rfl rfl (two_oneC (isSl_oneC hK7.sl)) rfl trivial ?_
            refine x_buildSliceS1 (by rfl) rfl rfl (by omega) (by rfl) rfl trivial ?_
            intro H8 hn8
            refine ⟨trivial, ?_⟩
            have hs8 := hn8.size
            have hV8 := hV5.keepN hn8.keep
            obtain ⟨q, hoq, hq⟩ := id hV8.row
            refine x_append (by rfl) (by rfl) (by rfl) rfl rfl rfl hoq (isSl_some (Nat.le_refl _) (by omega)) (m := 1) (cx := [v13, .int .u64 c.val]) rfl (hn8.blk.cels 0 2 (by simp)) (two_oneC' (isSl_oneC hK7.sl)) (by omega) rfl trivial ?_
            intro v9 H9 hap
            refine ⟨trivial, ?_⟩
            have hs9 := hap.keep.size
            have hVe : RdK B0 H.size H5.size H9 v9 (P5 ++ [(way ++ [c.byte], c.val)]) := RdK.app hoq hq hfv (Pk.one (p := (way ++ [c.byte], c.val)) ⟨hK7.keepN hn8.keep, fun _ => ⟨fun hc e => by have := hfv hc; omega, .inr (by omega)⟩⟩) hap (by omega)
            have hov := isSl_oneC hVe.ps.sl
            have hB8 := hBk5.keep (S := Non) hn8.keep (fun h => h)
            have hB9 := hB8.keep hap.keep (fun e => by have := hfv (by have := e.2; omega); have := e.1; omega)
            have hk49 : Keep Non H4 H9 := (hn8.old hk47).old hap.keep (fun z hz e => by have := hfv (by have := e.2; omega); have := e.1; omega)
            refine zrun ?_ ?_
            refine x_store rfl rfl rfl hov hB9 (by simp) trivial ?_
            intro H10 hB10 hk10 hs10
            refine ⟨trivial, ?_⟩
            refine zrun ?_ ?_
            refine nw_meet v9 (by repeat (first | exact True.intro | refine ⟨rfl, ?_⟩)) ⟨keep_at hk49 hk10 (Nat.le_refl _), ⟨n5, d5, P5 ++ [(way ++ [c.byte], c.val)], by rw [ho2, Option.isSome_map]; exact hB10, hVe.keep hk10 (fun hc e => by have := hVe.fresh hc; have e : sb v9 = H4.size := e; omega) (fun kk bb hkk hne _ _ => bs_ne_row (n := 0) hkk hne hB9 hV8.ps.sl), by simp; omega, fun x hx => ?_⟩, fun x hx => ?_⟩
            · rw [ho2] at hx
              obtain ⟨r, hr1, hr2⟩ := Option.map_eq_some_iff.1 hx
              obtain ⟨w1, w2, w3⟩ := hx5 r hr1
              subst hr2 w1 w2 w3
              unfold ownT
              rw [hfull]
              exact ⟨rfl, rfl, rfl⟩
            · rw [ho2] at hx
              obtain ⟨r, hr1, hr2⟩ := Option.map_eq_some_iff.1 hx
              have := hn1' r hr1
              subst hr2
              unfold ownT
              rw [hfull]
              exact this
          · have hon : o2 = o1 := by
              rw [ho2]
              cases o1 with
              | none => rfl
              | some r => show some (ownT c (way ++ [c.byte]) r) = some r; unfold ownT; rw [hfull]; rfl
            refine zrun ?_ ?_
            exact nw_meet v2 (by repeat (first | exact True.intro | refine ⟨rfl, ?_⟩)) ⟨hk47, ⟨n5, d5, P5, by rw [hon]; exact hBk5, hV5, by omega, fun x hx => hx5 x (by rw [← hon]; exact hx)⟩, fun r hr => hn1' r (by rw [← hon]; exact hr)⟩
        clear hBk5 hV5 hx5 hS1 e0' D7
        rintro v2 H8 ⟨hk48, hS2, hn2'⟩
        obtain ⟨n2, d2, P2, hBk2, hV2, hPl2, hx2⟩ := hS2.row
        have e0 : cel H8 H4.size 0 = some v2 := by rw [hBk2.cel]; rfl
        have e1 : cel H8 H4.size 1 = some (.int .i64 n2) := by rw [hBk2.cel]; rfl
        have e2 : cel H8 H4.size 2 = some (.int .i64 d2) := by rw [hBk2.cel]; rfl
        have e3 : cel H8 H4.size 3 = some (.bool o2.isSome) := by rw [hBk2.cel]; rfl
        have Dk := D4.keepN hk48
        have hk0 := hk04.non_trans hk48
        refine zrunc ?_ ?_
        refine cw_cut (fun e : Bool => [(147, .bool e), (0, vc), (1, .int .i64 i), (2, vw), (3, .int .i64 lo), (4, .int .i64 hi), (10, ptr H.size 0), (11, ptr H1.size 0), (12, .int .i64 (c.byte.toNat : Int)), (13, v13), (14, ptr H4.size 0)]) (fun e H' => H8 = H' ∧ e = (o2.isSome && decide (c.kids / 2 % 2 = 1))) ?_ ?_
        · refine zrun ?_ ?_
          refine x_load rfl rfl (hpmt (e3)) rfl trivial ?_
          refine zrun ?_ ?_
          cases hoc : o2 with
          | none =>
            refine zrun ?_ ?_
            exact nw_meet false (by repeat (first | exact True.intro | refine ⟨rfl, ?_⟩)) ⟨rfl, rfl⟩
          | some r =>
            refine zrun ?_ ?_
            refine x_load rfl rfl (hpmt (Dk.d3)) rfl trivial ?_
            refine zrun ?_ ?_
            rw [hkb.2.1]
            refine nw_meet _ (by repeat (first | exact True.intro | refine ⟨rfl, ?_⟩)) ⟨rfl, ?_⟩
            have := Int.emod_two_eq (c.kids / 2)
            rcases this with h | h <;> rw [h] <;> rfl
        rintro e _ ⟨rfl, he⟩
        refine zrun ?_ ?_
        refine cw_cut (fun v : Value => [(0, vc), (1, .int .i64 i), (2, vw), (3, .int .i64 lo), (4, .int .i64 hi), (10, ptr H.size 0), (11, ptr H1.size 0), (12, .int .i64 (c.byte.toNat : Int)), (13, v13), (14, ptr H4.size 0)]) (fun v H' => Keep Non H4 H' ∧ StO B0 H.size H5.size H' H4.size o3 v 2000001 ∧ ∀ r, o3 = some r → i < r.next ∧ r.next ≤ l.length) ?_ ?_
        · refine cw_cond rfl (fun hbit => ?_) (fun hbit => ?_) <;> (try simp at hbit)
          · rw [hbit] at he
            have hbit1 : c.kids / 2 % 2 = 1 := of_decide_eq_true (Bool.and_eq_true_iff.1 he.symm).2
            obtain ⟨r, hoc⟩ := Option.isSome_iff_exists.1 (Bool.and_eq_true_iff.1 he.symm).1
            obtain ⟨z1, z2, z3⟩ := hx2 r hoc
            subst z1 z2 z3
            obtain ⟨hrn, hrl⟩ := hn2' r hoc
            have hon : o3 = stepT r (rdT f l r.next (way ++ [c.byte]) (-1) 256) := by rw [ho3, hoc]; exact if_pos hbit1
            refine zrun ?_ ?_
            refine x_load rfl rfl (hpmt (e1)) rfl trivial ?_
            refine zrun ?_ ?_
            refine x_call rfl rfl rfl trivial (ih (i := r.next) (way := way ++ [c.byte]) (lo := -1) (hi := 256) (by omega) (by omega) (CR.keepN hC hk0) (hK13.keepN hk48) (by have := hk0.size; omega)) ?_
            rintro _ Ha ⟨hka, vx, nx, dx, Px, rfl, hVx, hPxl, hxx⟩
            refine ⟨trivial, ?_⟩
            have hgx := @rdT_good f l r.next (way ++ [c.byte]) (-1) 256
            generalize rdT f l r.next (way ++ [c.byte]) (-1) 256 = ox at hon hxx hgx ⊢
            have hvx := isSl_oneC hVx.ps.sl
            refine zrun ?_ ?_
            refine x_alloc rfl rfl trivial ?_
            intro Hb hnb
            refine ⟨trivial, ?_⟩
            refine x_stores rfl rfl rfl rfl (oc_cons hvx (oc_cons rfl (oc_cons rfl (oc_cons rfl oc_nil)))) hnb.blk (by simp) trivial ?_
            intro Hd hBd hkd hsd
            refine ⟨trivial, ?_⟩
            have hsa := hka.size
            have hsb := hnb.size
            have hs4c := hk48.size
            have hkad : Keep Non Ha Hd := keep_at hnb.keep hkd (Nat.le_refl _)
            have hkcd := hka.non_trans hkad
            have hk4d := hk48.non_trans hkcd
            have x0 : cel Hd Ha.size 0 = some vx := by rw [hBd.cel]; rfl
            have x1 : cel Hd Ha.size 1 = some (.int .i64 nx) := by rw [hBd.cel]; rfl
            have x2 : cel Hd Ha.size 2 = some (.int .i64 dx) := by rw [hBd.cel]; rfl
            have x3 : cel Hd Ha.size 3 = some (.bool ox.isSome) := by rw [hBd.cel]; rfl
            have y0 := hkcd.cel e0 (fun h => h)
            have y2 := hkcd.cel e2 (fun h => h)
            have hBkd := hBk2.keep hkcd (fun h => h)
            have hVd := hV2.keepN hkcd
            have hVxd := hVx.keepN hkad
            obtain ⟨q, hoq, hq⟩ := id hVd.row
            obtain ⟨qx, hoqx, hqx⟩ := id hVxd.row
            have hfv := hVd.fresh
            have hltv : 0 < sc v2 → sb v2 < H8.size := fun hc => let ⟨_, o, _⟩ := hV2.row; o.lt hc
            have sVx := hVxd.ps.sl
            have hkrd := Keep.refl (fun z => z = sb v2 ∧ 0 < sc v2) Hd
            have hv14 : ¬ (H4.size = sb v2 ∧ 0 < sc v2) := fun e => by have := hfv e.2; omega
            have hvx' : ¬ (Ha.size = sb v2 ∧ 0 < sc v2) := fun e => by have := hltv e.2; omega
            refine zrunc ?_ ?_
            refine cw_held (fun _ => Keep (fun z => z = sb v2 ∧ 0 < sc v2) Hd) ⟨[4, 15], [(1, 0), (3, 0), (6, 0), (8, 0), (10, 0), (13, 0)]⟩ (.op 0 (.op 1 (.op 2 (.op 3 (.op 5 (.op 6 (.op 7 (.op 8 (.op 9 (.op 10 (.op 11 (.op 12 (.op 13 (.op 4 (.op 14 (.op 15 (.nil))))))))))))))))) panicOk_body mixed (by kernel_rfl) ?_
            refine zhrun ?_ ?_
            refine x_load rfl rfl (hpmk rfl (fun _ hk => hk.cel y0 hv14)) rfl (okq_load rfl rfl (by assumption)) ?_
            refine zhrun ?_ ?_
            refine x_load rfl rfl (hpmk rfl (fun _ hk => hk.cel x0 hvx')) rfl (okq_load rfl rfl (by assumption)) ?_
            refine zhrun ?_ ?_
            refine x_load rfl rfl (hpmk rfl (fun _ hk => hk.cel x1 hvx')) rfl (okq_load rfl rfl (by assumption)) ?_
            refine zhrun ?_ ?_
            refine x_load rfl rfl (hpmk rfl (fun _ hk => hk.cel y2 hv14)) rfl (okq_load rfl rfl (by assumption)) ?_
            refine zhrun ?_ ?_
            refine x_load rfl rfl (hpmk rfl (fun _ hk => hk.cel x2 hvx')) rfl (okq_load rfl rfl (by assumption)) ?_
            refine zhrun ?_ ?_
            refine x_max rfl rfl rfl rfl (okq_reg rfl rfl) ?_
            refine zhrun ?_ ?_
            refine x_load rfl rfl (hpmk rfl (fun _ hk => hk.cel x3 hvx')) rfl (okq_load rfl rfl (by assumption)) ?_
            refine zhrun ?_ ?_
            refine x_append (by rfl) (by rfl) (by rfl) rfl rfl rfl hoq sVx (by rw [pcs_length, hqx.len]) hoqx.cels (pcs_oneC hqx (fun v b h => isSl_oneC h.1.sl)) (by omega) rfl ⟨rfl, rfl⟩ ?_
            intro v9 He hap
            refine ⟨okm_keep hap.keep (fun z hz e => ⟨e.1, by have := e.2; omega⟩), ?_⟩
            have hse := hap.keep.size
            have hk4e : Keep Non H4 He := hk4d.old hap.keep (fun z hz e => by have := hfv (by have := e.2; omega); have := e.1; omega)
            have hBke := hBkd.keep hap.keep (fun e => hv14 ⟨e.1, by have := e.2; omega⟩)
            have hVe : RdK B0 H.size H5.size He v9 (r.P ++ Px) := RdK.app hoq hq hfv (hqx.mono fun kk b hb => ⟨hb.1, fun hne => ⟨fun hc e => by have := hfv hc; have := hltv hc; rcases (hb.2 hne).2 with h | h <;> omega, (hb.2 hne).2.imp (fun h => h) (fun h => by have := hk0.size; omega)⟩⟩) hap (by omega)
            have hov := isSl_oneC hVe.ps.sl
            refine zhrun ?_ ?_
            refine x_build (cs := [v9, .int .i64 nx, .int .i64 (max (r.deep : Int) dx), .bool ox.isSome]) rfl rfl rfl (ocp_cons hov (ocp_cons rfl (ocp_cons rfl (ocp_cons rfl ocp_nil)))) rfl (okq_reg rfl rfl) ?_
            refine x_stores rfl rfl rfl rfl (oc_cons hov (oc_cons rfl (oc_cons rfl (oc_cons rfl oc_nil)))) hBke (by simp) ⟨rfl, rfl⟩ ?_
            intro Hg hBg hkg hsg
            refine ⟨okm_free (fun c => by cases c <;> kernel_rfl), ?_⟩
            refine zhrun ?_ ?_
            refine zrun ?_ ?_
            refine nw_meet v9 (by repeat (first | exact True.intro | refine ⟨rfl, ?_⟩)) ⟨keep_at hk4e hkg (Nat.le_refl _), ⟨nx, max (r.deep : Int) dx, r.P ++ Px, ?_, hVe.keep hkg (fun hc e => by have := hVe.fresh hc; have e : sb v9 = H4.size := e; omega) (fun kk bb hkk hne _ _ => bs_ne_row (n := 0) hkk hne hBke hVd.ps.sl), by rw [List.length_append]; omega, fun x hx => ?_⟩, fun x hx => ?_⟩
            · rw [hon]; cases ox <;> exact hBg
            · rw [hon] at hx
              cases ox with
              | none => cases hx
              | some x' =>
                obtain ⟨w1, w2, w3⟩ := hxx x' rfl
                injection hx with hx
                subst hx w1 w2 w3
                exact ⟨rfl, by show max (r.deep : Int) (x'.deep : Int) = ((max r.deep x'.deep : Nat) : Int); omega, rfl⟩
            · rw [hon] at hx
              cases ox with
              | none => cases hx
              | some x' =>
                have hg := (hgx rfl).1
                injection hx with hx
                subst hx
                have := hg.lt; have := hg.le
                exact ⟨by show i < x'.next; omega, by show x'.next ≤ _; omega⟩
          · rw [hbit] at he
            have hon : o3 = o2 := by
              rw [ho3]
              cases hoc : o2 with
              | none => rfl
              | some r =>
                rw [hoc] at he
                exact if_neg (fun h => by rw [decide_eq_true h] at he; cases he)
            refine zrun ?_ ?_
            exact nw_meet v2 (by repeat (first | exact True.intro | refine ⟨rfl, ?_⟩)) ⟨hk48, ⟨n2, d2, P2, by rw [hon]; exact hBk2, hV2, by omega, fun x hx => hx2 x (by rw [← hon]; exact hx)⟩, fun r hr => hn2' r (by rw [← hon]; exact hr)⟩
        rintro v3 H9 ⟨hk49, hS3, hn3'⟩
        obtain ⟨n3, d3, P3, hBk3, hV3, hPl3, hx3⟩ := hS3.row
        have e0 : cel H9 H4.size 0 = some v3 := by rw [hBk3.cel]; rfl
        have e1 : cel H9 H4.size 1 = some (.int .i64 n3) := by rw [hBk3.cel]; rfl
        have e2 : cel H9 H4.size 2 = some (.int .i64 d3) := by rw [hBk3.cel]; rfl
        have e3 : cel H9 H4.size 3 = some (.bool o3.isSome) := by rw [hBk3.cel]; rfl
        have Dk := D4.keepN hk49
        have hk0 := hk04.non_trans hk49
        refine zrunc ?_ ?_
        refine cw_cut (fun e : Bool => [(175, .bool e), (0, vc), (1, .int .i64 i), (2, vw), (3, .int .i64 lo), (4, .int .i64 hi), (10, ptr H.size 0), (11, ptr H1.size 0), (12, .int .i64 (c.byte.toNat : Int)), (13, v13), (14, ptr H4.size 0)]) (fun e H' => H9 = H' ∧ e = (o3.isSome && decide (c.kids / 4 % 2 = 1))) ?_ ?_
        · refine zrun ?_ ?_
          refine x_load rfl rfl (hpmt (e3)) rfl trivial ?_
          refine zrun ?_ ?_
          cases hoc : o3 with
          | none =>
            refine zrun ?_ ?_
            exact nw_meet false (by repeat (first | exact True.intro | refine ⟨rfl, ?_⟩)) ⟨rfl, rfl⟩
          | some r =>
            refine zrun ?_ ?_
            refine x_load rfl rfl (hpmt (Dk.d3)) rfl trivial ?_
            refine zrun ?_ ?_
            rw [hkb.2.2]
            refine nw_meet _ (by repeat (first | exact True.intro | refine ⟨rfl, ?_⟩)) ⟨rfl, ?_⟩
            have := Int.emod_two_eq (c.kids / 4)
            rcases this with h | h <;> rw [h] <;> rfl
        rintro e _ ⟨rfl, he⟩
        refine zrun ?_ ?_
        refine cw_cut (fun v : Value => [(0, vc), (1, .int .i64 i), (2, vw), (3, .int .i64 lo), (4, .int .i64 hi), (10, ptr H.size 0), (11, ptr H1.size 0), (12, .int .i64 (c.byte.toNat : Int)), (13, v13), (14, ptr H4.size 0)]) (fun v H' => Keep Non H4 H' ∧ StO B0 H.size H5.size H' H4.size o4 v 3000001 ∧ ∀ r, o4 = some r → i < r.next ∧ r.next ≤ l.length) ?_ ?_
        · refine cw_cond rfl (fun hbit => ?_) (fun hbit => ?_) <;> (try simp at hbit)
          · rw [hbit] at he
            have hbit1 : c.kids / 4 % 2 = 1 := of_decide_eq_true (Bool.and_eq_true_iff.1 he.symm).2
            obtain ⟨r, hoc⟩ := Option.isSome_iff_exists.1 (Bool.and_eq_true_iff.1 he.symm).1
            obtain ⟨z1, z2, z3⟩ := hx3 r hoc
            subst z1 z2 z3
            obtain ⟨hrn, hrl⟩ := hn3' r hoc
            have hon : o4 = stepT r (rdT f l r.next way c.byte.toNat hi) := by rw [ho4, hoc]; exact if_pos hbit1
            refine zrun ?_ ?_
            refine x_load rfl rfl (hpmt (e1)) rfl trivial ?_
            refine zrun ?_ ?_
            refine x_call rfl rfl rfl trivial (ih (i := r.next) (way := way) (lo := (c.byte.toNat : Int)) (hi := hi) (by omega) (by omega) (CR.keepN hC hk0) (hW.keepN hk0) (by have := hk0.size; omega)) ?_
            rintro _ Ha ⟨hka, vx, nx, dx, Px, rfl, hVx, hPxl, hxx⟩
            refine ⟨trivial, ?_⟩
            have hgx := @rdT_good f l r.next way c.byte.toNat hi
            generalize rdT f l r.next way c.byte.toNat hi = ox at hon hxx hgx ⊢
            have hvx := isSl_oneC hVx.ps.sl
            refine zrun ?_ ?_
            refine x_alloc rfl rfl trivial ?_
            intro Hb hnb
            refine ⟨trivial, ?_⟩
            refine x_stores rfl rfl rfl rfl (oc_cons hvx (oc_cons rfl (oc_cons rfl (oc_cons rfl oc_nil)))) hnb.blk (by simp) trivial ?_
            intro Hd hBd hkd hsd
            refine ⟨trivial, ?_⟩
            have hsa := hka.size
            have hsb := hnb.size
            have hs4c := hk49.size
            have hkad : Keep Non Ha Hd := keep_at hnb.keep hkd (Nat.le_refl _)
            have hkcd := hka.non_trans hkad
            have hk4d := hk49.non_trans hkcd
            have x0 : cel Hd Ha.size 0 = some vx := by rw [hBd.cel]; rfl
            have x1 : cel Hd Ha.size 1 = some (.int .i64 nx) := by rw [hBd.cel]; rfl
            have x2 : cel Hd Ha.size 2 = some (.int .i64 dx) := by rw [hBd.cel]; rfl
            have x3 : cel Hd Ha.size 3 = some (.bool ox.isSome) := by rw [hBd.cel]; rfl
            have y0 := hkcd.cel e0 (fun h => h)
            have y2 := hkcd.cel e2 (fun h => h)
            have hBkd := hBk3.keep hkcd (fun h => h)
            have hVd := hV3.keepN hkcd
            have hVxd := hVx.keepN hkad
            obtain ⟨q, hoq, hq⟩ := id hVd.row
            obtain ⟨qx, hoqx, hqx⟩ := id hVxd.row
            have hfv := hVd.fresh
            have hltv : 0 < sc v3 → sb v3 < H9.size := fun hc => let ⟨_, o, _⟩ := hV3.row; o.lt hc
            have sVx := hVxd.ps.sl
            have hkrd := Keep.refl (fun z => z = sb v3 ∧ 0 < sc v3) Hd
            have hv14 : ¬ (H4.size = sb v3 ∧ 0 < sc v3) := fun e => by have := hfv e.2; omega
            have hvx' : ¬ (Ha.size = sb v3 ∧ 0 < sc v3) := fun e => by have := hltv e.2; omega
            refine zrunc ?_ ?_
            refine cw_held (fun _ => Keep (fun z => z = sb v3 ∧ 0 < sc v3) Hd) ⟨[4, 15], [(1, 0), (3, 0), (6, 0), (8, 0), (10, 0), (13, 0)]⟩ (.op 0 (.op 1 (.op 2 (.op 3 (.op 5 (.op 6 (.op 7 (.op 8 (.op 9 (.op 10 (.op 11 (.op 12 (.op 13 (.op 4 (.op 14 (.op 15 (.nil))))))))))))))))) panicOk_body mixed (by kernel_rfl) ?_
            refine zhrun ?_ ?_
            refine x_load rfl rfl (hpmk rfl (fun _ hk => hk.cel y0 hv14)) rfl (okq_load rfl rfl (by assumption)) ?_
            refine zhrun ?_ ?_
            refine x_load rfl rfl (hpmk rfl (fun _ hk => hk.cel x0 hvx')) rfl (okq_load rfl rfl (by assumption)) ?_
            refine zhrun ?_ ?_
            refine x_load rfl rfl (hpmk rfl (fun _ hk => hk.cel x1 hvx')) rfl (okq_load rfl rfl (by assumption)) ?_
            refine zhrun ?_ ?_
            refine x_load rfl rfl (hpmk rfl (fun _ hk => hk.cel y2 hv14)) rfl (okq_load rfl rfl (by assumption)) ?_
            refine zhrun ?_ ?_
            refine x_load rfl rfl (hpmk rfl (fun _ hk => hk.cel x2 hvx')) rfl (okq_load rfl rfl (by assumption)) ?_
            refine zhrun ?_ ?_
            refine x_max rfl rfl rfl rfl (okq_reg rfl rfl) ?_
            refine zhrun ?_ ?_
            refine x_load rfl rfl (hpmk rfl (fun _ hk => hk.cel x3 hvx')) rfl (okq_load rfl rfl (by assumption)) ?_
            refine zhrun ?_ ?_
            refine x_append (by rfl) (by rfl) (by rfl) rfl rfl rfl hoq sVx (by rw [pcs_length, hqx.len]) hoqx.cels (pcs_oneC hqx (fun v b h => isSl_oneC h.1.sl)) (by omega) rfl ⟨rfl, rfl⟩ ?_
            intro v9 He hap
            refine ⟨okm_keep hap.keep (fun z hz e => ⟨e.1, by have := e.2; omega⟩), ?_⟩
            have hse := hap.keep.size
            have hk4e : Keep Non H4 He := hk4d.old hap.keep (fun z hz e => by have := hfv (by have := e.2; omega); have := e.1; omega)
            have hBke := hBkd.keep hap.keep (fun e => hv14 ⟨e.1, by have := e.2; omega⟩)
            have hVe : RdK B0 H.size H5.size He v9 (r.P ++ Px) := RdK.app hoq hq hfv (hqx.mono fun kk b hb => ⟨hb.1, fun hne => ⟨fun hc e => by have := hfv hc; have := hltv hc; rcases (hb.2 hne).2 with h | h <;> omega, (hb.2 hne).2.imp (fun h => h) (fun h => by have := hk0.size; omega)⟩⟩) hap (by omega)
            have hov := isSl_oneC hVe.ps.sl
            refine zhrun ?_ ?_
            refine x_build (cs := [v9, .int .i64 nx, .int .i64 (max (r.deep : Int) dx), .bool ox.isSome]) rfl rfl rfl (ocp_cons hov (ocp_cons rfl (ocp_cons rfl (ocp_cons rfl ocp_nil)))) rfl (okq_reg rfl rfl) ?_
            refine x_stores rfl rfl rfl rfl (oc_cons hov (oc_cons rfl (oc_cons rfl (oc_cons rfl oc_nil)))) hBke (by simp) ⟨rfl, rfl⟩ ?_
            intro Hg hBg hkg hsg
            refine ⟨okm_free (fun c => by cases c <;> kernel_rfl), ?_⟩
            refine zhrun ?_ ?_
            refine zrun ?_ ?_
            refine nw_meet v9 (by repeat (first | exact True.intro | refine ⟨rfl, ?_⟩)) ⟨keep_at hk4e hkg (Nat.le_refl _), ⟨nx, max (r.deep : Int) dx, r.P ++ Px, ?_, hVe.keep hkg (fun hc e => by have := hVe.fresh hc; have e : sb v9 = H4.size := e; omega) (fun kk bb hkk hne _ _ => bs_ne_row (n := 0) hkk hne hBke hVd.ps.sl), by rw [List.length_append]; omega, fun x hx => ?_⟩, fun x hx => ?_⟩
            · rw [hon]; cases ox <;> exact hBg
            · rw [hon] at hx
              cases ox with
              | none => cases hx
              | some x' =>
                obtain ⟨w1, w2, w3⟩ := hxx x' rfl
                injection hx with hx
                subst hx w1 w2 w3
                exact ⟨rfl, by show max (r.deep : Int) (x'.deep : Int) = ((max r.deep x'.deep : Nat) : Int); omega, rfl⟩
            · rw [hon] at hx
              cases ox with
              | none => cases hx
              | some x' =>
                have hg := (hgx rfl).1
                injection hx with hx
                subst hx
                have := hg.lt; have := hg.le
                exact ⟨by show i < x'.next; omega, by show x'.next ≤ _; omega⟩
          · rw [hbit] at he
            have hon : o4 = o3 := by
              rw [ho4]
              cases hoc : o3 with
              | none => rfl
              | some r =>
                rw [hoc] at he
                exact if_neg (fun h => by rw [decide_eq_true h] at he; cases he)
            refine zrun ?_ ?_
            exact nw_meet v3 (by repeat (first | exact True.intro | refine ⟨rfl, ?_⟩)) ⟨hk49, ⟨n3, d3, P3, by rw [hon]; exact hBk3, hV3, by omega, fun x hx => hx3 x (by rw [← hon]; exact hx)⟩, fun r hr => hn3' r (by rw [← hon]; exact hr)⟩
        rintro v8 H10 ⟨hk410, hS4, hn4⟩
        obtain ⟨n9, d9, P9, hBk9, hV9, hPl9, hx9⟩ := hS4.row
        have f0 : cel H10 H4.size 0 = some v8 := by rw [hBk9.cel]; rfl
        have f2 : cel H10 H4.size 2 = some (.int .i64 d9) := by rw [hBk9.cel]; rfl
        have f3 : cel H10 H4.size 3 = some (.bool o4.isSome) := by rw [hBk9.cel]; rfl
        have D10 := D4.keepN hk410
        have hk010 := hk04.non_trans hk410
        have hB610 := hB64.keep hk410 (fun h => h)
        have sV9 := hV9.ps.sl
        have hs410 := hk410.size
        refine zrun ?_ ?_
        refine x_load rfl rfl (hpmt (f3)) rfl trivial ?_
        refine zrun ?_ ?_
        cases hoc : o4 with
        | none =>
          have hz : R = none := by rw [hRe, hoc]; rfl
          refine zrun ?_ ?_
          refine x_build (cs := [.slice none 0 0, .int .i64 0, .int .i64 0, .bool false]) rfl rfl rfl ocp_nil rfl trivial ?_
          refine x_stores rfl rfl rfl rfl (by simp [oneC, Value.oneCell']) (hB610) (by simp [zR]) trivial ?_
          intro Hz hBz hkz hsz
          refine ⟨trivial, ?_⟩
          refine zrun ?_ ?_
          exact cw_retc rfl rfl rfl (hBz.cels 0 4 (by simp [putL, zR])) ⟨keep_at (hk010) hkz (Nat.le_refl _), .slice none 0 0, 0, 0, [], by rw [hz]; rfl, RdK.nil _ _ _ _, Nat.zero_le _, fun x hx => by rw [hz] at hx; cases hx⟩
        | some r =>
          obtain ⟨w1, w2, w3⟩ := hx9 r hoc
          subst w1 w2 w3
          have hRr : R = endT c r := by rw [hRe, hoc]; rfl
          refine zrun ?_ ?_
          refine x_load rfl rfl (hpmt (D10.d2)) rfl trivial ?_
          refine zrun ?_ ?_
          refine x_load rfl rfl (hpmt (f0)) rfl trivial ?_
          refine zrun ?_ ?_
          refine cw_cond rfl (fun hcnt => ?_) (fun hcnt => ?_) <;> (try simp at hcnt)
          · have hz : R = none := by rw [hRr]; exact if_neg hcnt
            refine zrun ?_ ?_
            refine x_build (cs := [.slice none 0 0, .int .i64 0, .int .i64 0, .bool false]) rfl rfl rfl ocp_nil rfl trivial ?_
            refine x_stores rfl rfl rfl rfl (by simp [oneC, Value.oneCell']) (hB610) (by simp [zR]) trivial ?_
            intro Hz hBz hkz hsz
            refine ⟨trivial, ?_⟩
            refine zrun ?_ ?_
            exact cw_retc rfl rfl rfl (hBz.cels 0 4 (by simp [putL, zR])) ⟨keep_at (hk010) hkz (Nat.le_refl _), .slice none 0 0, 0, 0, [], by rw [hz]; rfl, RdK.nil _ _ _ _, Nat.zero_le _, fun x hx => by rw [hz] at hx; cases hx⟩
          · have hz : R = some ⟨r.P, r.next, r.deep + 1⟩ := by rw [hRr]; exact if_pos hcnt
            have hg := (rdT_good (f + 1) (hR0.symm.trans hz)).1.deep
            have hg2 := (rdT_good (f + 1) (hR0.symm.trans hz)).1.le
            have hg3 := (rdT_good (f + 1) (hR0.symm.trans hz)).2
            dsimp only at hg hg2 hg3
            refine zrun ?_ ?_
            refine x_load rfl rfl (hpmt (f2)) rfl trivial ?_
            refine zrun ?_ ?_
            refine x_store rfl rfl rfl rfl hBk9 (by simp) trivial ?_
            intro H11 hB11 hk11 hs11
            refine ⟨trivial, ?_⟩
            have hov := isSl_oneC sV9
            have hV11 := hV9.keep hk11 (fun hc e => by have := hV9.fresh hc; have e : sb v8 = H4.size := e; omega) (fun kk bb hkk hne _ _ => bs_ne_row (n := 0) hkk hne hBk9 sV9)
            have hB611 := hB610.keep hk11 (fun e => by have e : H.size = H4.size := e; omega)
            have hk011 : Keep Non H H11 := keep_at hk010 hk11 (by omega)
            refine zrun ?_ ?_
            refine x_loads (cs := [v8, .int .i64 r.next, .int .i64 ((r.deep : Int) + 1), .bool true]) rfl rfl rfl (hpmt (by have := hB11.cels 0 4 (by simp); rw [hoc] at this; exact this)) rfl trivial ?_
            refine x_stores rfl rfl rfl rfl (oc_cons hov (oc_cons rfl (oc_cons rfl (oc_cons rfl oc_nil)))) hB611 (by simp [zR]) trivial ?_
            intro H12 hB12 hk12 hs12
            refine ⟨trivial, ?_⟩
            refine zrun ?_ ?_
            refine cw_retc rfl rfl rfl (hB12.cels 0 4 (by simp [putL, zR])) ⟨keep_at hk011 hk12 (Nat.le_refl _), v8, (r.next : Int), (r.deep : Int) + 1, r.P, by rw [hz]; rfl, ?_, by omega, fun x hx => ?_⟩
            · refine (hV11.mono (Nat.le_refl _) (by omega)).keep hk12 (fun hc e => by have := hV11.fresh hc; have e : sb v8 = H.size := e; omega) (fun kk bb hkk hne _ _ => ?_)
              exact bs_ne_row (v := .slice none 0 0) (n := 0) (m := 0) (x := 0) (z := 0) (e := false) hkk hne hB611 isSl_nil
            · rw [hz] at hx
              injection hx with hx
              subst hx
              exact ⟨rfl, rfl, rfl⟩
end Go.Proofs.YtkdmcbacofafpaaDoor.X
