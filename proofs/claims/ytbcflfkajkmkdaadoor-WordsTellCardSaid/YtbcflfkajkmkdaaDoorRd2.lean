/- Chapter 24, the program: how a field is taken in. -/
import Derived.Test.YtbcflfkajkmkdaaDoorRd1
import Derived.Test.YtbcflfkajkmkdaaDoorPrs5
namespace Go.Proofs.YtbcflfkajkmkdaaDoor.X
open Go Go.Proofs Go.RowKit
set_option linter.unusedVariables false
set_option linter.unusedSimpArgs false
set_option maxRecDepth 10000
set_option maxHeartbeats 8000000

section
variable {P : Program} {n : Nat} {B : Exit → Act → World → Prop} {w0 : World} {md : Md} {ops : List Oper} {rest : OT} {k : K} {σ : Sl} {H : Heap} {i : Nat}
variable {d : Nat} {ty : TypeId} {pos : String} {after : Array Edge} {g : Option (Nat × Bool)}
theorem x_seqL {t t' : Nat} {x y : Operand} {a b : Bytes} (hg : gd ops σ g = some true) (hx : evo σ x = some (strV a)) (hy : evo σ y = some (strV b)) (hd : Nat.blt d n = true) (hk : okq ops md i ⟨some d, .binOp .eql t x y t', ty, pos, after, g⟩ H)
    (h : XW P n B w0 md ops rest k ((d, .bool (decide (a = b))) :: σ) H) : XW P n B w0 md ops (.op i ⟨some d, .binOp .eql t x y t', ty, pos, after, g⟩ rest) k σ H :=
  x_pure hk hg rfl hd (fun A w hM ha => by
    have e : (a == b) = decide (a = b) := by by_cases h : a = b <;> simp [h]
    simp [execOp, ha.evo hx, ha.evo hy, eqGuard, binOp, Op.stringOp, strV, Lib.toList_data, e]) h
end
theorem PoS.snoc {S : Nat → Prop} {H H1 H2 : Heap} {v v' k : Value} {l : List Pr} {p : Pr} {q : List (Value × Int)} (hk : Pk (fun k b => Own 1 H k b.length (bvs b) ∧ (0 < sc k → S (sb k) ∧ sb k ≠ sb v)) q l) (ho : Own 2 H v l.length (pcs q)) (hd : Dis q) (hfr : 0 < sc v → S (sb v))
    (hk1 : Keep Non H H1) (hkey : Own 1 H1 k p.1.length (bvs p.1)) (hf : Fresh H k) (hap : App 2 H1 H2 v v' l.length (pcs q) [k, .int .u64 p.2] 1) : PoS (fun z => S z ∨ (H.size ≤ z ∧ z < H2.size)) H2 v' (l ++ [p]) := by
  have hs1 := hk1.size
  have hs2 := hap.keep.size
  have hltv : 0 < sc v → sb v < H.size := fun hc => ho.lt hc
  refine ⟨⟨q ++ [(k, p.2)], ?_, ?_, ?_⟩, ?_⟩
  · refine Pk.append (hk.mono fun u b hb => ⟨(hb.1.keep hk1 (fun _ h => h)).keep hap.keep (fun hc e => (hb.2 hc).2 e.1), fun hc => ⟨.inl (hb.2 hc).1, ?_⟩⟩) (Pk.one ⟨hkey.keep hap.keep (fun hc e => ?_), fun hc => ?_⟩)
    · have hlt := hb.1.lt hc
      rcases hap.place with ⟨e1, _⟩ | ⟨e1, _⟩
      · rw [e1]; exact (hb.2 hc).2
      · rw [e1]; omega
    · have h4 : H.size ≤ sb k := hf hc
      have h5 := hltv (by omega)
      have h6 : sb k = sb v := e.1
      omega
    · have h4 : H.size ≤ sb k := hf hc
      have h4' : sb k < H1.size := hkey.lt hc
      refine ⟨.inr ⟨h4, by omega⟩, ?_⟩
      rcases hap.place with ⟨e1, e2, e3, e4, _⟩ | ⟨e1, _⟩
      · have := hltv (by omega)
        rw [e1]; omega
      · rw [e1]; omega
  · rw [pcs_append, List.length_append]
    exact hap.own
  · have hlen := hk.len
    have old : ∀ (i : Nat) (x : Value × Int), q[i]? = some x → 0 < sc x.1 → sb x.1 < H.size := by
      intro i x hx hc
      have hi := (List.getElem?_eq_some_iff.1 hx).1
      obtain ⟨r, hr⟩ : ∃ r, l[i]? = some r := ⟨_, List.getElem?_eq_getElem (by omega)⟩
      exact (hk.at_ i x r hx hr).2.1.lt hc
    have new : ∀ (i : Nat) (x : Value × Int), ¬ i < q.length → (q ++ [(k, p.2)])[i]? = some x → i = q.length ∧ x = (k, p.2) := by
      intro i x hi hx
      have hi2 := (List.getElem?_eq_some_iff.1 hx).1
      simp at hi2
      have : i = q.length := by omega
      subst this
      simp at hx
      exact ⟨rfl, hx.symm⟩
    intro i j x y hx hy hne hcx hcy
    by_cases hi : i < q.length <;> by_cases hj : j < q.length
    · rw [List.getElem?_append_left hi] at hx
      rw [List.getElem?_append_left hj] at hy
      exact hd i j x y hx hy hne hcx hcy
    · obtain ⟨e1, rfl⟩ := new j y hj hy
      rw [List.getElem?_append_left hi] at hx
      have h1 := old i x hx hcx
      have h2 : H.size ≤ sb k := hf hcy
      show sb x.1 ≠ sb k
      omega
    · obtain ⟨e1, rfl⟩ := new i x hi hx
      rw [List.getElem?_append_left hj] at hy
      have h1 := old j y hy hcy
      have h2 : H.size ≤ sb k := hf hcx
      show sb k ≠ sb y.1
      omega
    · have := (new i x hi hx).1
      have := (new j y hj hy).1
      omega
  · intro hc
    rcases hap.place with ⟨e1, e2, e3, e4, _⟩ | ⟨e1, e2, e3, e4, e5⟩
    · rw [e1]
      exact .inl (hfr (by rw [← e3]; exact hc))
    · rw [e1]
      exact .inr ⟨hs1, by omega⟩
/-- an operation that is read: its rows are the call's own -/
structure OpO (B0 : Nat) (S : Nat → Prop) (H : Heap) (b : Nat) (vk vt vd vp : Value) (o : Opn) : Prop where
  key : Own 1 H vk o.key.length (bvs o.key)
  kf : 0 < sc vk → B0 ≤ sb vk ∧ sb vk ≠ b
  tov : Own 1 H vt o.to.length (bvs o.to)
  tf : 0 < sc vt → B0 ≤ sb vt ∧ sb vt ≠ b
  data : Own 1 H vd o.data.length (bvs o.data)
  df : 0 < sc vd → B0 ≤ sb vd ∧ sb vd ≠ b
  prs : PoS S H vp o.pairs
  pS : ∀ z, S z → B0 ≤ z ∧ z < H.size ∧ z ≠ b
  nk : 0 < sc vk → ¬ S (sb vk)
  nt : 0 < sc vt → ¬ S (sb vt)
  nd : 0 < sc vd → ¬ S (sb vd)
theorem OpO.keep {B0 : Nat} {S S' : Nat → Prop} {H H' : Heap} {b : Nat} {vk vt vd vp : Value} {o : Opn} (h : OpO B0 S H b vk vt vd vp o) (k : Keep S' H H') (hS : ∀ z, B0 ≤ z → z < H.size → z ≠ b → ¬ S' z) : OpO B0 S H' b vk vt vd vp o := by
  obtain ⟨h1, h2, h3, h4, h5, h6, h7, h8, h9, h10, h11⟩ := h
  exact ⟨h1.keep k (fun hc => hS _ (h2 hc).1 (h1.lt hc) (h2 hc).2), h2, h3.keep k (fun hc => hS _ (h4 hc).1 (h3.lt hc) (h4 hc).2), h4, h5.keep k (fun hc => hS _ (h6 hc).1 (h5.lt hc) (h6 hc).2), h6, h7.keep k (fun z hz => hS z (h8 z hz).1 (h8 z hz).2.1 (h8 z hz).2.2), fun z hz => ⟨(h8 z hz).1, by have := (h8 z hz).2.1; have := k.size; omega, (h8 z hz).2.2⟩, h9, h10, h11⟩
def OpAt (B0 : Nat) (S : Nat → Prop) (H : Heap) (b : Nat) (o : Opn) : Prop := ∃ vk vt vd vp, Blk H b (opCells o vk vt vd vp) ∧ OpO B0 S H b vk vt vd vp o
/-- behind one field's being taken -/
def TakeR (B0 : Nat) (S : Nat → Prop) (H : Heap) (b : Nat) (o : Opn) (H' : Heap) : Prop := ∃ S', OpAt B0 S' H' b o ∧ (∀ z, S' z → S z ∨ H.size ≤ z) ∧ Keep (fun z => z = b ∨ S z) H H'
section
variable {B0 b : Nat} {S : Nat → Prop} {H H1 H2 : Heap} {vk vt vd vp : Value} {o : Opn}
theorem keep_two {b : Nat} {S : Nat → Prop} {H H1 H2 : Heap} (hk1 : Keep Non H H1) (hk2 : Keep (· = b) H1 H2) : Keep (fun z => z = b ∨ S z) H H2 := (hk1.trans hk2).mono fun z hz e => by
  rcases e with e | e
  · exact e.elim
  · exact .inl e.1
theorem take_num {i : Nat} {x : Value} {o' : Opn} (h : OpO B0 S H b vk vt vd vp o) (hk1 : Keep Non H H1) (hk2 : Keep (· = b) H1 H2) (hB : Blk H2 b ((opCells o vk vt vd vp).set i x)) (e : (opCells o vk vt vd vp).set i x = opCells o' vk vt vd vp) (e1 : o'.key = o.key) (e2 : o'.to = o.to) (e3 : o'.data = o.data) (e4 : o'.pairs = o.pairs) : TakeR B0 S H b o' H2 := by
  rw [e] at hB
  have h2 := (h.keep hk1 (fun _ _ _ _ h => h)).keep hk2 (fun z _ _ hz e => hz e)
  obtain ⟨g1, g2, g3, g4, g5, g6, g7, g8, g9, g10, g11⟩ := h2
  exact ⟨S, ⟨vk, vt, vd, vp, hB, by rw [e1]; exact g1, g2, by rw [e2]; exact g3, g4, by rw [e3]; exact g5, g6, by rw [e4]; exact g7, g8, g9, g10, g11⟩, fun z hz => .inl hz, keep_two hk1 hk2⟩
theorem take_key {c : Value} {l : Bytes} (hb : B0 ≤ b) (hbl : b < H.size) (h : OpO B0 S H b vk vt vd vp o) (hk1 : Keep Non H H1) (hk2 : Keep (· = b) H1 H2) (hB : Blk H2 b ((opCells o vk vt vd vp).set 7 c)) (hc : Own 1 H1 c l.length (bvs l)) (hf : Fresh H c) : TakeR B0 S H b { o with key := l } H2 := by
  have p2 := h.pS
  have h2 := (h.keep hk1 (fun _ _ _ _ h => h)).keep hk2 (fun z _ _ hz e => hz e)
  obtain ⟨g1, g2, g3, g4, g5, g6, g7, g8, g9, g10, g11⟩ := h2
  have hs := hk1.size
  have hs2 := hk2.size
  exact ⟨S, ⟨c, vt, vd, vp, hB, hc.keep hk2 (fun hp e => by have := hf hp; omega), fun hp => by have := hf hp; omega, g3, g4, g5, g6, g7, g8, fun hp hS => by have := (p2 _ hS).2.1; have := hf hp; omega, g10, g11⟩, fun z hz => .inl hz, keep_two hk1 hk2⟩
theorem take_to {c : Value} {l : Bytes} (hb : B0 ≤ b) (hbl : b < H.size) (h : OpO B0 S H b vk vt vd vp o) (hk1 : Keep Non H H1) (hk2 : Keep (· = b) H1 H2) (hB : Blk H2 b ((opCells o vk vt vd vp).set 8 c)) (hc : Own 1 H1 c l.length (bvs l)) (hf : Fresh H c) : TakeR B0 S H b { o with «to» := l } H2 := by
  have p2 := h.pS
  have h2 := (h.keep hk1 (fun _ _ _ _ h => h)).keep hk2 (fun z _ _ hz e => hz e)
  obtain ⟨g1, g2, g3, g4, g5, g6, g7, g8, g9, g10, g11⟩ := h2
  have hs := hk1.size
  have hs2 := hk2.size
  exact ⟨S, ⟨vk, c, vd, vp, hB, g1, g2, hc.keep hk2 (fun hp e => by have := hf hp; omega), fun hp => by have := hf hp; omega, g5, g6, g7, g8, g9, fun hp hS => by have := (p2 _ hS).2.1; have := hf hp; omega, g11⟩, fun z hz => .inl hz, keep_two hk1 hk2⟩
theorem take_data {c : Value} {l : Bytes} (hb : B0 ≤ b) (hbl : b < H.size) (h : OpO B0 S H b vk vt vd vp o) (hk1 : Keep Non H H1) (hk2 : Keep (· = b) H1 H2) (hB : Blk H2 b ((opCells o vk vt vd vp).set 9 c)) (hc : Own 1 H1 c l.length (bvs l)) (hf : Fresh H c) : TakeR B0 S H b { o with data := l } H2 := by
  have p2 := h.pS
  have h2 := (h.keep hk1 (fun _ _ _ _ h => h)).keep hk2 (fun z _ _ hz e => hz e)
  obtain ⟨g1, g2, g3, g4, g5, g6, g7, g8, g9, g10, g11⟩ := h2
  have hs := hk1.size
  have hs2 := hk2.size
  exact ⟨S, ⟨vk, vt, c, vp, hB, g1, g2, g3, g4, hc.keep hk2 (fun hp e => by have := hf hp; omega), fun hp => by have := hf hp; omega, g7, g8, g9, g10, fun hp hS => by have := (p2 _ hS).2.1; have := hf hp; omega⟩, fun z hz => .inl hz, keep_two hk1 hk2⟩
end
theorem law_take {B0 b : Nat} {S : Nat → Prop} {o : Opn} {nm v : Bytes} {H : Heap} (hb : B0 ≤ b) (hA : OpAt B0 S H b o) (hv : v.length ≤ 100000) (hpl : o.pairs.length ≤ 100000) (hL : Laid24 H) : Ret Tryd.prog 27 [ptr b 0, strV nm, strV v] H (fun r H' => r = .tuple #[] ∧ TakeR B0 S H b (takeG rdrW o nm v) H') := by
  obtain ⟨vk, vt, vd, vp, hB, hO⟩ := hA
  generalize hT : takeG rdrW o nm v = T
  unfold takeG at hT
  refine ret_of Tryd.func27 rfl rfl rfl rfl ?_
  intro w0
  refine zrun ?_ ?_
  refine x_seqL (b := nSlot) rfl rfl rfl rfl trivial ?_
  by_cases e : nm = nSlot
  · rw [decide_eq_true e]
    rw [if_pos e] at hT
    subst hT
    refine zrun ?_ ?_
    refine x_call rfl rfl rfl trivial (law_number (by omega) hL) ?_
    rintro _ H1 ⟨hk1, rfl⟩
    refine ⟨trivial, ?_⟩
    refine zrun ?_ ?_
    refine x_store rfl rfl rfl rfl (hB.keep hk1 (fun h => h)) (by simp [opCells]) trivial ?_
    intro H2 hB2 hk2 hs2
    refine ⟨trivial, ?_⟩
    refine zrun ?_ ?_
    exact nw_end rfl ⟨rfl, take_num hO hk1 hk2 hB2 rfl rfl rfl rfl rfl⟩
  rw [decide_eq_false e]
  rw [if_neg e] at hT
  clear e
  refine zrun ?_ ?_
  refine x_seqL (b := nA) rfl rfl rfl rfl trivial ?_
  by_cases e : nm = nA
  · rw [decide_eq_true e]
    rw [if_pos e] at hT
    subst hT
    refine zrun ?_ ?_
    refine x_call rfl rfl rfl trivial (law_number (by omega) hL) ?_
    rintro _ H1 ⟨hk1, rfl⟩
    refine ⟨trivial, ?_⟩
    refine zrun ?_ ?_
    refine x_store rfl rfl rfl rfl (hB.keep hk1 (fun h => h)) (by simp [opCells]) trivial ?_
    intro H2 hB2 hk2 hs2
    refine ⟨trivial, ?_⟩
    refine zrun ?_ ?_
    exact nw_end rfl ⟨rfl, take_num hO hk1 hk2 hB2 rfl rfl rfl rfl rfl⟩
  rw [decide_eq_false e]
  rw [if_neg e] at hT
  clear e
  refine zrun ?_ ?_
  refine x_seqL (b := nB) rfl rfl rfl rfl trivial ?_
  by_cases e : nm = nB
  · rw [decide_eq_true e]
    rw [if_pos e] at hT
    subst hT
    refine zrun ?_ ?_
    refine x_call rfl rfl rfl trivial (law_number (by omega) hL) ?_
    rintro _ H1 ⟨hk1, rfl⟩
    refine ⟨trivial, ?_⟩
    refine zrun ?_ ?_
    refine x_store rfl rfl rfl rfl (hB.keep hk1 (fun h => h)) (by simp [opCells]) trivial ?_
    intro H2 hB2 hk2 hs2
    refine ⟨trivial, ?_⟩
    refine zrun ?_ ?_
    exact nw_end rfl ⟨rfl, take_num hO hk1 hk2 hB2 rfl rfl rfl rfl rfl⟩
  rw [decide_eq_false e]
  rw [if_neg e] at hT
  clear e
  refine zrun ?_ ?_
  refine x_seqL (b := nCursor) rfl rfl rfl rfl trivial ?_
  by_cases e : nm = nCursor
  · rw [decide_eq_true e]
    rw [if_pos e] at hT
    subst hT
    refine zrun ?_ ?_
    refine x_call rfl rfl rfl trivial (law_number (by omega) hL) ?_
    rintro _ H1 ⟨hk1, rfl⟩
    refine ⟨trivial, ?_⟩
    refine zrun ?_ ?_
    refine x_store rfl rfl rfl rfl (hB.keep hk1 (fun h => h)) (by simp [opCells]) trivial ?_
    intro H2 hB2 hk2 hs2
    refine ⟨trivial, ?_⟩
    refine zrun ?_ ?_
    exact nw_end rfl ⟨rfl, take_num hO hk1 hk2 hB2 rfl rfl rfl rfl rfl⟩
  rw [decide_eq_false e]
  rw [if_neg e] at hT
  clear e
  refine zrun ?_ ?_
  refine x_seqL (b := nTag) rfl rfl rfl rfl trivial ?_
  by_cases e : nm = nTag
  · rw [decide_eq_true e]
    rw [if_pos e] at hT
    subst hT
    refine zrun ?_ ?_
    refine x_call rfl rfl rfl trivial (law_number (by omega) hL) ?_
    rintro _ H1 ⟨hk1, rfl⟩
    refine ⟨trivial, ?_⟩
    refine zrun ?_ ?_
    refine x_store rfl rfl rfl rfl (hB.keep hk1 (fun h => h)) (by simp [opCells]) trivial ?_
    intro H2 hB2 hk2 hs2
    refine ⟨trivial, ?_⟩
    refine zrun ?_ ?_
    exact nw_end rfl ⟨rfl, take_num hO hk1 hk2 hB2 rfl rfl rfl rfl rfl⟩
  rw [decide_eq_false e]
  rw [if_neg e] at hT
  clear e
  refine zrun ?_ ?_
  refine x_seqL (b := nN) rfl rfl rfl rfl trivial ?_
  by_cases e : nm = nN
  · rw [decide_eq_true e]
    rw [if_pos e] at hT
    subst hT
    refine zrun ?_ ?_
    refine x_call rfl rfl rfl trivial (law_number (by omega) hL) ?_
    rintro _ H1 ⟨hk1, rfl⟩
    refine ⟨trivial, ?_⟩
    refine zrun ?_ ?_
    refine x_store rfl rfl rfl rfl (hB.keep hk1 (fun h => h)) (by simp [opCells]) trivial ?_
    intro H2 hB2 hk2 hs2
    refine ⟨trivial, ?_⟩
    refine zrun ?_ ?_
    exact nw_end rfl ⟨rfl, take_num hO hk1 hk2 hB2 rfl rfl rfl rfl rfl⟩
  rw [decide_eq_false e]
  rw [if_neg e] at hT
  clear e
  refine zrun ?_ ?_
  refine x_seqL (b := nKey) rfl rfl rfl rfl trivial ?_
  by_cases e : nm = nKey
  · rw [decide_eq_true e]
    rw [if_pos e] at hT
    subst hT
    refine zrun ?_ ?_
    refine x_call rfl rfl rfl trivial (law_heard (by omega)) ?_
    rintro c H1 ⟨hk1, hc1, hc2⟩
    refine ⟨trivial, ?_⟩
    have occ := isSl_oneC hc1.sl
    refine zrun ?_ ?_
    refine x_store rfl rfl rfl occ (hB.keep hk1 (fun h => h)) (by simp [opCells]) trivial ?_
    intro H2 hB2 hk2 hs2
    refine ⟨trivial, ?_⟩
    refine zrun ?_ ?_
    exact nw_end rfl ⟨rfl, take_key hb hB.lt hO hk1 hk2 hB2 hc1 hc2⟩
  rw [decide_eq_false e]
  rw [if_neg e] at hT
  clear e
  refine zrun ?_ ?_
  refine x_seqL (b := nTo) rfl rfl rfl rfl trivial ?_
  by_cases e : nm = nTo
  · rw [decide_eq_true e]
    rw [if_pos e] at hT
    subst hT
    refine zrun ?_ ?_
    refine x_call rfl rfl rfl trivial (law_heard (by omega)) ?_
    rintro c H1 ⟨hk1, hc1, hc2⟩
    refine ⟨trivial, ?_⟩
    have occ := isSl_oneC hc1.sl
    refine zrun ?_ ?_
    refine x_store rfl rfl rfl occ (hB.keep hk1 (fun h => h)) (by simp [opCells]) trivial ?_
    intro H2 hB2 hk2 hs2
    refine ⟨trivial, ?_⟩
    refine zrun ?_ ?_
    exact nw_end rfl ⟨rfl, take_to hb hB.lt hO hk1 hk2 hB2 hc1 hc2⟩
  rw [decide_eq_false e]
  rw [if_neg e] at hT
  clear e
  refine zrun ?_ ?_
  refine x_seqL (b := nData) rfl rfl rfl rfl trivial ?_
  by_cases e : nm = nData
  · rw [decide_eq_true e]
    rw [if_pos e] at hT
    subst hT
    refine zrun ?_ ?_
    refine x_call rfl rfl rfl trivial (law_heard (by omega)) ?_
    rintro c H1 ⟨hk1, hc1, hc2⟩
    refine ⟨trivial, ?_⟩
    have occ := isSl_oneC hc1.sl
    refine zrun ?_ ?_
    refine x_store rfl rfl rfl occ (hB.keep hk1 (fun h => h)) (by simp [opCells]) trivial ?_
    intro H2 hB2 hk2 hs2
    refine ⟨trivial, ?_⟩
    refine zrun ?_ ?_
    exact nw_end rfl ⟨rfl, take_data hb hB.lt hO hk1 hk2 hB2 hc1 hc2⟩
  rw [decide_eq_false e]
  rw [if_neg e] at hT
  clear e
  refine zrun ?_ ?_
  refine x_seqL (b := nVal) rfl rfl rfl rfl trivial ?_
  by_cases e : nm = nVal
  · rw [decide_eq_true e]
    rw [if_pos e] at hT
    subst hT
    refine zrun ?_ ?_
    refine x_call rfl rfl rfl trivial (law_greatW (by omega) hL) ?_
    rintro _ H1 ⟨hk1, rfl⟩
    refine ⟨trivial, ?_⟩
    refine zrun ?_ ?_
    refine x_store rfl rfl rfl rfl (hB.keep hk1 (fun h => h)) (by simp [opCells]) trivial ?_
    intro H2 hB2 hk2 hs2
    refine ⟨trivial, ?_⟩
    refine zrun ?_ ?_
    exact nw_end rfl ⟨rfl, take_num hO hk1 hk2 hB2 rfl rfl rfl rfl rfl⟩
  rw [decide_eq_false e]
  rw [if_neg e] at hT
  clear e
  refine zrun ?_ ?_
  refine x_seqL (b := nPair) rfl rfl rfl rfl trivial ?_
  by_cases e : nm = nPair
  · rw [decide_eq_true e]
    rw [if_pos e] at hT
    subst hT
    refine zrun ?_ ?_
    refine x_call rfl rfl rfl trivial (law_Cut (s := ⟨v.toArray⟩) (c := 58) (by rw [strV_size]; omega) hL) ?_
    rintro _ _ ⟨rfl, fnd, rfl⟩
    refine ⟨trivial, ?_⟩
    refine zrun ?_ ?_
    have ca : (cutA 58 v).length ≤ v.length := (List.takeWhile_sublist _).length_le
    have cb : (cutB 58 v).length ≤ v.length := by unfold cutB; have := (List.dropWhile_sublist (l := v) (· != (58 : UInt8))).length_le; rw [List.length_drop]; omega
    have q11 : cel H b 11 = some vp := by rw [hB.cel]; rfl
    have hkr := Keep.refl Non H
    have hP := hO.prs
    have hS1 := hO.pS
    have hS2 := hO.nk
    have hS3 := hO.nt
    have hS4 := hO.nd
    refine cw_held (fun _ => Keep Non H) ⟨[6, 8, 10, 11, 14], [(4, 0)]⟩ (.op 0 (.op 1 (.op 2 (.op 3 (.op 4 (.op 5 (.op 7 (.op 6 (.op 8 (.op 9 (.op 10 (.op 11 (.op 12 (.op 13 (.op 14 (.nil)))))))))))))))) panicOk_body mixed (by kernel_rfl) ?_
    refine zhrun ?_ ?_
    refine x_load rfl rfl (hpmk rfl (fun _ hk => hk.cel q11 (fun h => h))) rfl (okq_load rfl rfl (by assumption)) ?_
    refine zhrun ?_ ?_
    refine x_call rfl rfl rfl ⟨rfl, rfl⟩ (law_heard (s := cutA 58 v) (by omega)) ?_
    rintro c H1 ⟨hk1, hc1, hc2⟩
    refine ⟨okm_keep hk1 (fun _ _ h => h), ?_⟩
    refine zhrun ?_ ?_
    refine x_call rfl rfl rfl ⟨rfl, rfl⟩ (law_greatW (s := cutB 58 v) (by omega) (hL.keepN hk1)) ?_
    rintro _ H2 ⟨hk2, rfl⟩
    refine ⟨okm_keep hk2 (fun _ _ h => h), ?_⟩
    refine zhrun ?_ ?_
    refine x_build (cs := [c, .int .u64 (greatW (cutB 58 v))]) rfl rfl rfl (two_oneC (isSl_oneC hc1.sl)) rfl (okq_reg rfl rfl) ?_
    refine zhrun ?_ ?_
    refine x_buildSliceS1 (by rfl) rfl rfl (by omega) (by rfl) rfl ⟨rfl, rfl⟩ ?_
    intro H3 hn3
    refine ⟨okm_keep hn3.keep (fun _ _ h => h.elim), ?_⟩
    refine zhrun ?_ ?_
    have hk03 := (hk1.non_trans hk2).non_trans hn3.keep
    obtain ⟨q, hq, ho, hd⟩ := hP.row
    refine x_append (v := vp) (by rfl) (by rfl) (by rfl) rfl rfl rfl (ho.keep hk03 (fun _ h => h)) (isSl_some (Nat.le_refl _) (by omega)) (m := 1) (cx := [c, .int .u64 (greatW (cutB 58 v))]) rfl (hn3.blk.cels 0 2 (by simp)) (two_oneC' (isSl_oneC hc1.sl)) (by omega) rfl ⟨rfl, rfl⟩ ?_
    intro v' H4 hap4
    refine ⟨okm_free (by intro c; cases c <;> kernel_rfl), ?_⟩
    refine zhrun ?_ ?_
    have hfr := hP.fresh
    have hc3 : Own 1 H3 c (heardW (cutA 58 v)).length (bvs (heardW (cutA 58 v))) := (hc1.keep hk2 (fun _ h => h)).keep hn3.keep (fun _ h => h)
    have hPn := PoS.snoc (p := (heardW (cutA 58 v), greatW (cutB 58 v))) hq ho hd hfr hk03 hc3 hc2 hap4
    have hs03 := hk03.size
    have hs34 := hap4.keep.size
    have hbl := hB.lt
    have nvb : ¬ (b = sb vp ∧ o.pairs.length + 1 ≤ sc vp ∧ 0 < 1) := fun e => (hS1 _ (hfr (by omega))).2.2 e.1.symm
    have hB4 := (hB.keep hk03 (fun h => h)).keep hap4.keep nvb
    have ocv : oneC v' = true := isSl_oneC hap4.own.sl
    refine x_store rfl rfl rfl ocv hB4 (by simp [opCells]) ⟨rfl, rfl⟩ ?_
    intro H5 hB5 hk5 hs5
    refine ⟨okm_free (by intro c; cases c <;> kernel_rfl), ?_⟩
    refine zhrun ?_ ?_
    refine zrun ?_ ?_
    obtain ⟨g1, g2, g3, g4, g5, g6, _, _, _, _, _⟩ := hO
    have far : ∀ {u : Value}, (0 < sc u → ¬ S (sb u)) → 0 < sc u → ¬ (sb u = sb vp ∧ o.pairs.length + 1 ≤ sc vp ∧ 0 < 1) := fun h hc e => h hc (by rw [e.1]; exact hfr (by omega))
    refine nw_end rfl ⟨rfl, (fun z => S z ∨ (H.size ≤ z ∧ z < H4.size)), ⟨vk, vt, vd, v', hB5, ((g1.keep hk03 (fun _ h => h)).keep hap4.keep (far hS2)).keep hk5 (fun hc e => (g2 hc).2 e), g2, ((g3.keep hk03 (fun _ h => h)).keep hap4.keep (far hS3)).keep hk5 (fun hc e => (g4 hc).2 e), g4, ((g5.keep hk03 (fun _ h => h)).keep hap4.keep (far hS4)).keep hk5 (fun hc e => (g6 hc).2 e), g6, hPn.keep hk5 (fun z hz e => ?_), fun z hz => ?_, fun hc hz => ?_, fun hc hz => ?_, fun hc hz => ?_⟩, fun z hz => hz.imp id (fun h => h.1), ?_⟩
    · subst e
      rcases hz with hz | hz
      · exact (hS1 _ hz).2.2 rfl
      · omega
    · rcases hz with hz | hz
      · have := hS1 _ hz
        omega
      · omega
    · rcases hz with hz | hz
      · exact hS2 hc hz
      · have := g1.lt hc
        omega
    · rcases hz with hz | hz
      · exact hS3 hc hz
      · have := g3.lt hc
        omega
    · rcases hz with hz | hz
      · exact hS4 hc hz
      · have := g5.lt hc
        omega
    · refine ((hk03.trans hap4.keep).trans hk5).mono fun z hz e => ?_
      rcases e with (e | e) | e
      · exact e.elim
      · exact .inr (by rw [e.1.1]; exact hfr (by omega))
      · exact .inl e.1
  · rw [decide_eq_false e]
    rw [if_neg e] at hT
    subst hT
    refine zrun ?_ ?_
    exact nw_end rfl ⟨rfl, S, ⟨vk, vt, vd, vp, hB, hO⟩, fun z hz => .inl hz, Keep.refl _ _⟩
end Go.Proofs.YtbcflfkajkmkdaaDoor.X
