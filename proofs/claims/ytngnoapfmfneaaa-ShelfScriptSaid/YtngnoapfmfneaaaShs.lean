/- The package shelf: Split. -/
import Derived.Test.YtngnoapfmfneaaaShf
namespace Go.Proofs.Ytngnoapfmfneaaa.X
open Go Go.Proofs
set_option linter.unusedVariables false
set_option linter.unusedSimpArgs false
set_option maxRecDepth 10000
set_option maxHeartbeats 2000000

theorem cw_as {P : Program} {n : Nat} {B : Exit → Act → World → Prop} {w0 : World} {k : K} {σ : Sl} {H : Heap} {c : Code} (s : Nat) {v : Value} (u : Value) (hs : look σ s = some v) (e : v = u) (h : CW P n B w0 c k ((s, u) :: σ) H) : CW P n B w0 c k σ H :=
  by unfold CW at h ⊢; exact fun a w ha hw => h a w (sat_as s hs e a ha) hw
def encV (v : Value) : List Value := [v]
theorem encV_len (v : Value) : (encV v).length = 1 := rfl
/-- a key that nobody turns: part 1 -/
def KeyR (K : Role) (H : Heap) (k : Value) (c : Bytes) : Prop := Bs H k c ∧ (c ≠ [] → K (sb k) = 1)
/-- the row of one byte's pairs: part 10 and its place -/
def GR (K : Role) (H : Heap) (x : Value) (y : List Pr × Nat) : Prop := ∃ q, Own 2 H x y.1.length (pcs q) ∧ (0 < sc x → K (sb x) = 10 + y.2) ∧ Pk (KeyR K H) q y.1
abbrev Grp := UInt8 × List Pr
/-- pairs that are parted: parts: 1 keys, 2 the row of the key without bytes, 3 the row of rows -/
structure Spl (K : Role) (H : Heap) (vn vo : Value) (nn : List Pr) (G : List Grp) : Prop where
  kin : K.In H
  non : ∃ q, Own 2 H vn nn.length (pcs q) ∧ (0 < sc vn → K (sb vn) = 2) ∧ Pk (KeyR K H) q nn
  out : Rw encV 1 (GR K H) H vo (G.map (·.2)).zipIdx
  ko : 0 < sc vo → K (sb vo) = 3
section spl
variable {K K' : Role} {H H' : Heap} {vn vo : Value} {nn : List Pr} {G : List Grp}
theorem KeyR.step {S : Nat → Prop} {k : Value} {c : Bytes} (h : KeyR K H k c) (hk : Keep S H H') (hS : ∀ x, K x = 1 → ¬ S x) (hr : ∀ x, K x = 1 → K' x = 1) : KeyR K' H' k c :=
  ⟨h.1.keep hk (fun hne => hS _ (h.2 hne)), fun hne => hr _ (h.2 hne)⟩
theorem GR.step {S : Nat → Prop} {x : Value} {y : List Pr × Nat} (h : GR K H x y) (hk : Keep S H H') (hS : ∀ x, K x = 1 ∨ K x = 10 + y.2 → ¬ S x) (hr : ∀ x, K x = 1 ∨ K x = 10 + y.2 → K' x = K x) : GR K' H' x y := by
  obtain ⟨q, h1, h2, h3⟩ := h
  exact ⟨q, h1.keep hk (fun hc => hS _ (.inr (h2 hc))), fun hc => by rw [hr _ (.inr (h2 hc))]; exact h2 hc, h3.mono fun k c hb => hb.step hk (fun x e => hS x (.inl e)) (fun x e => by rw [hr x (.inl e)]; exact e)⟩
theorem Spl.step {S : Nat → Prop} (h : Spl K H vn vo nn G) (hk : Keep S H H') (hS : ∀ x, K x ≠ 0 → ¬ S x) (hi : K'.In H') (hr : ∀ x, K x ≠ 0 → K' x = K x) : Spl K' H' vn vo nn G := by
  obtain ⟨q, h1, h2, h3⟩ := h.non
  refine ⟨hi, ⟨q, h1.keep hk (fun hc => hS _ (by rw [h2 hc]; omega)), fun hc => by rw [hr _ (by rw [h2 hc]; omega)]; exact h2 hc, h3.mono fun k c hb => hb.step hk (fun x e => hS x (by omega)) (fun x e => by rw [hr x (by omega)]; exact e)⟩, ?_, fun hc => by rw [hr _ (by rw [h.ko hc]; omega)]; exact h.ko hc⟩
  exact (h.out.keep hk (fun hc => hS _ (by rw [h.ko hc]; omega))).mono fun x y hxy => hxy.step hk (fun x e => hS x (by omega)) (fun x e => hr x (by omega))
theorem Spl.keepN (h : Spl K H vn vo nn G) (hk : Keep Non H H') : Spl K H' vn vo nn G := h.step hk (fun _ _ h => h) (h.kin.mono hk.size) (fun _ _ => rfl)

/-- an append to a row of a part: what stays -/
theorem Spl.app (h : Spl K H vn vo nn G) {v v' : Value} {s n r : Nat} {cs cx : List Value} (ap : App s H H' v v' n cs cx 1) (hr : 0 < sc v → K (sb v) = r) : AppRole K (K.set (sb v') r) H H' v v' r := app_role ap (by omega) h.kin hr

/-- the key without bytes comes -/
theorem Spl.none1 (h : Spl K H vn vo [] G) {v' k : Value} {a : Int} {c : Bytes} {q : List (Value × Int)} (hq : Pk (KeyR K H) q []) (hkey : KeyR K H k c) (hv : 0 < sc vn → K (sb vn) = 2) (ap : App 2 H H' vn v' 0 (pcs q) [k, .int .u64 a] 1) :
    Spl (K.set (sb v') 2) H' v' vo [(c, a)] G := by
  have ar := h.app ap hv
  have hqn : q = [] := by have := hq.len; simpa using this
  have hS : ∀ x, K x ≠ 0 → K x ≠ 2 → ¬ (x = sb vn ∧ 0 < sc vn) := ar.role
  refine ⟨ar.kin, ⟨[(k, a)], ?_, fun _ => ar.at_, ?_⟩, ?_, fun hc => ?_⟩
  · have := ap.own
    subst hqn
    exact this
  · exact Pk.one (p := (c, a)) (hkey.step ar.keep (fun x e => hS x (by omega) (by omega)) (fun x e => by rw [ar.same x (by omega)]; exact e))
  · exact (h.out.keep ar.keep (fun hc => hS _ (by rw [h.ko hc]; omega) (by rw [h.ko hc]; omega))).mono fun x y hxy => hxy.step ar.keep (fun x e => hS x (by omega) (by omega)) (fun x e => ar.same x (by omega))
  · have := h.ko hc; rw [ar.same _ (by omega)]; exact this

/-- one more row of rows -/
theorem Spl.more (h : Spl K H vn vo nn G) (b : UInt8) {v' : Value} {q : List Value} (hq : Al (GR K H) q (G.map (·.2)).zipIdx) (ap : App 1 H H' vo v' (G.map (·.2)).zipIdx.length (rws encV q) (rws encV [.slice none 0 0]) 1) :
    Spl (K.set (sb v') 3) H' vn v' nn (G ++ [(b, [])]) := by
  have ar := h.app ap h.ko
  have hS : ∀ x, K x ≠ 0 → K x ≠ 3 → ¬ (x = sb vo ∧ 0 < sc vo) := ar.role
  obtain ⟨q0, h1, h2, h3⟩ := h.non
  refine ⟨ar.kin, ⟨q0, h1.keep ar.keep (fun hc => hS _ (by rw [h2 hc]; omega) (by rw [h2 hc]; omega)), fun hc => by rw [ar.same _ (by rw [h2 hc]; omega)]; exact h2 hc, h3.mono fun k c hb => hb.step ar.keep (fun x e => hS x (by omega) (by omega)) (fun x e => by rw [ar.same x (by omega)]; exact e)⟩, ?_, fun _ => ar.at_⟩
  have e : ((G ++ [(b, ([] : List Pr))]).map (·.2)).zipIdx = (G.map (·.2)).zipIdx ++ [([], G.length)] := by rw [List.map_append, List.zipIdx_append]; simp
  rw [e]
  refine Rw.app hq rfl (Al.one ⟨[], Own.nil 2 H, fun hc => by simp [sc] at hc, Pk.nil _⟩) (fun x y hxy => hxy.step ar.keep (fun x e => hS x (by omega) (by omega)) (fun x e => ar.same x (by omega))) ap

/-- the i-th row, to be read and to be made longer -/
theorem Spl.at_ (h : Spl K H vn vo nn G) {i : Nat} {y : Grp} (hy : G[i]? = some y) : ∃ x, cel H (sb vo) (so vo + i) = some x ∧ GR K H x (y.2, i) := by
  have hz : (G.map (·.2)).zipIdx[i]? = some (y.2, i) := by rw [List.getElem?_zipIdx, List.getElem?_map, hy]; simp
  obtain ⟨x, hx, hc⟩ := h.out.rd.cel1 encV_len hz
  exact ⟨x, hc, hx⟩
theorem Spl.grow (h : Spl K H vn vo nn G) {i : Nat} {y : Grp} (hy : G[i]? = some y) {x : Value} (hx : cel H (sb vo) (so vo + i) = some x) {k : Value} {c : Bytes} {a : Int} (hkey : KeyR K H k c) :
    ∃ q, Own 2 H x y.2.length (pcs q) ∧ ∀ x' H1, App 2 H H1 x x' y.2.length (pcs q) [k, .int .u64 a] 1 →
      Keep (fun z => K z = 10 + i) H H1 ∧ oneC x' = true ∧ ∃ r, Blk H1 (sb vo) r ∧ so vo + i < r.length ∧ ∀ H2, Blk H2 (sb vo) (r.set (so vo + i) x') → Keep (· = sb vo) H1 H2 →
        Spl (K.set (sb x') (10 + i)) H2 vn vo nn (G.set i (y.1, y.2 ++ [(c, a)])) := by
  have hz : (G.map (·.2)).zipIdx[i]? = some (y.2, i) := by rw [List.getElem?_zipIdx, List.getElem?_map, hy]; simp
  have hlt : i < (G.map (·.2)).zipIdx.length := (List.getElem?_eq_some_iff.1 hz).1
  have hltG : i < G.length := (List.getElem?_eq_some_iff.1 hy).1
  obtain ⟨x0, hx0, q, h1, h2, h3⟩ := h.at_ hy
  rw [hx] at hx0
  cases hx0
  refine ⟨q, h1, fun x' H1 ap => ?_⟩
  have ar := h.app (r := 10 + i) ap h2
  have hS : ∀ z, K z ≠ 0 → K z ≠ 10 + i → ¬ (z = sb x ∧ 0 < sc x) := ar.role
  have hpos : 0 < sc vo := pos_of h.out hz
  have hvo := h.ko hpos
  refine ⟨ar.keep.mono (fun z _ e => by rw [e.1]; exact h2 e.2), isSl_oneC ap.own.sl, ?_⟩
  -- the row of rows behind the append, each row but the i-th as it was
  obtain ⟨Q, hQ1, hQ2⟩ := h.out.row
  have hQ2' := hQ2.keep ar.keep (fun hc => hS _ (by rw [h.ko hc]; omega) (by rw [h.ko hc]; omega))
  have hQl := hQ1.len
  obtain ⟨r, hB, hr, hst⟩ := hQ2'.store i (by rw [rws_length encV_len]; omega)
  refine ⟨r, hB, hr, fun H2 hB2 hk2 => ?_⟩
  have hK' : ∀ z, K z ≠ 0 → (K.set (sb x') (10 + i)) z = K z := ar.same
  have hne2 : ∀ z, K z ≠ 3 → ¬ z = sb vo := fun z hz e => hz (by rw [e]; exact hvo)
  have hxvo : sb x' ≠ sb vo := fun e => by
    have g2 := ar.at_
    have g3 : (K.set (sb x') (10 + i)) (sb vo) = 10 + i := by rw [← e]; exact g2
    rw [hK' _ (by omega)] at g3
    omega
  obtain ⟨q0, g1, g2, g3⟩ := h.non
  have hkeyS : ∀ k c, KeyR K H k c → KeyR (K.set (sb x') (10 + i)) H2 k c := fun k c hb => (hb.step ar.keep (fun z e => hS z (by omega) (by omega)) (fun z e => e) : KeyR K H1 k c).step hk2 (fun z e => hne2 z (by omega)) (fun z e => by rw [hK' z (by omega)]; exact e)
  refine ⟨ar.kin.mono hk2.size, ⟨q0, (g1.keep ar.keep (fun hc => hS _ (by rw [g2 hc]; omega) (by rw [g2 hc]; omega))).keep hk2 (fun hc => hne2 _ (by rw [g2 hc]; omega)), fun hc => by rw [hK' _ (by rw [g2 hc]; omega)]; exact g2 hc, g3.mono hkeyS⟩, ?_, fun hc => by rw [hK' _ (by rw [h.ko hc]; omega)]; exact h.ko hc⟩
  have e : ((G.set i (y.1, y.2 ++ [(c, a)])).map (·.2)).zipIdx = (G.map (·.2)).zipIdx.set i (y.2 ++ [(c, a)], i) := by
    rw [List.map_set]
    apply List.ext_getElem?
    intro j
    rw [List.getElem?_zipIdx]
    by_cases ej : i = j
    · subst ej
      rw [List.getElem?_set_self (by simpa using hltG), List.getElem?_set_self (by simpa using hltG)]
      simp
    · rw [List.getElem?_set_ne ej, List.getElem?_set_ne ej, List.getElem?_zipIdx]
  rw [e]
  have hown := hst H2 x' hB2
  have e2 : (rws encV Q).set i x' = rws encV (Q.set i x') := by
    obtain ⟨z, hz'⟩ : ∃ z, Q[i]? = some z := ⟨_, List.getElem?_eq_getElem (by omega)⟩
    have := rws_set encV_len Q i 0 z x' x' hz' (by omega) rfl
    rw [Nat.mul_one, Nat.add_zero] at this
    exact this
  rw [e2] at hown
  refine ⟨Q.set i x', ⟨by simp [hQl], fun j z w hz' hw => ?_⟩, by rw [List.length_set]; exact hown⟩
  by_cases ej : i = j
  · subst ej
    rw [List.getElem?_set_self (by omega)] at hz' hw
    cases hz'
    cases hw
    refine ⟨q ++ [(k, a)], ?_, fun _ => ar.at_, (h3.mono hkeyS).append (Pk.one (p := (c, a)) (hkeyS _ _ hkey))⟩
    rw [pcs_append, List.length_append]
    exact ap.own.keep hk2 (fun _ => hxvo)
  · rw [List.getElem?_set_ne ej] at hz' hw
    have hr' := hQ1.at_ j z w hz' hw
    have hwj : w.2 = j := by
      rw [List.getElem?_zipIdx] at hw
      cases hl : (G.map (·.2))[j]? with
      | none => rw [hl] at hw; cases hw
      | some c => rw [hl] at hw; simp at hw; rw [← hw]
    exact (hr'.step ar.keep (fun z e => hS z (by omega) (by omega)) (fun z e => rfl) : GR K H1 z w).step hk2 (fun z e => hne2 z (by omega)) (fun z e => hK' z (by omega))
end spl

/-- what the rows hold, one behind the other -/
def flatG (G : List Grp) : List Pr := G.flatMap fun g => g.2.map fun p => (g.1 :: p.1, p.2)
theorem flatG_snoc (G : List Grp) (b : UInt8) : flatG (G ++ [(b, [])]) = flatG G := by simp [flatG]
theorem flatG_append (G G' : List Grp) : flatG (G ++ G') = flatG G ++ flatG G' := by simp [flatG]
/-- parted: the key without bytes, then rows of one byte each, neighbours of two -/
structure Parted (l nn : List Pr) (G : List Grp) : Prop where
  all : l = nn ++ flatG G
  one : nn = [] ∨ ∃ a, nn = [([], a)]
  full : ∀ g ∈ G, g.2 ≠ []
  apart : ∀ (i : Nat) (a b : UInt8), (G.map (·.1))[i]? = some a → (G.map (·.1))[i + 1]? = some b → a ≠ b
def lastG (G : List Grp) : Int := match G.getLast? with
  | some g => (g.1.toNat : Int)
  | none => -1
theorem lastG_snoc (G : List Grp) (g : Grp) : lastG (G ++ [g]) = (g.1.toNat : Int) := by unfold lastG; rw [List.getLast?_concat]
theorem lastG_ge {G : List Grp} {c : UInt8} (h : lastG G = (c.toNat : Int)) : ∃ G0 g, G = G0 ++ [(c, g)] := by
  unfold lastG at h
  rcases List.eq_nil_or_concat G with e | ⟨G0, g, e⟩
  · subst e
    have h' : (-1 : Int) = (c.toNat : Int) := h
    omega
  · rw [List.concat_eq_append] at e
    subst e
    rw [List.getLast?_concat] at h
    have h' : (g.1.toNat : Int) = (c.toNat : Int) := h
    have : g.1 = c := UInt8.toNat_inj.1 (by omega)
    exact ⟨G0, g.2, by rw [← this]⟩
theorem flatG_ge {G : List Grp} (hf : ∀ x ∈ G, x.2 ≠ []) : G.length ≤ (flatG G).length := by
  induction G with
  | nil => simp
  | cons g G ih =>
    have h1 := List.length_pos_iff.2 (hf g (by simp))
    have h2 := ih (fun x hx => hf x (by simp [hx]))
    simp [flatG] at h2 ⊢
    omega
theorem Parted.fresh {l nn : List Pr} {G : List Grp} (h : Parted l nn G) {c : UInt8} {t : Bytes} {a : Int} (hl : lastG G ≠ (c.toNat : Int)) : Parted (l ++ [(c :: t, a)]) nn (G ++ [(c, [] ++ [(t, a)])]) := by
  refine ⟨by rw [h.all, flatG_append]; simp [flatG], h.one, fun g hg => ?_, fun i x y hx hy => ?_⟩
  · rcases List.mem_append.1 hg with hg | hg
    · exact h.full g hg
    · simp at hg; subst hg; simp
  · rw [List.map_append] at hx hy
    have hi := (List.getElem?_eq_some_iff.1 hy).1
    simp at hi
    by_cases e : i + 1 < G.length
    · rw [List.getElem?_append_left (by simp; omega)] at hx hy
      exact h.apart i x y hx hy
    · have e1 : i + 1 = G.length := by omega
      rw [List.getElem?_append_left (by simp; omega)] at hx
      rw [List.getElem?_append_right (by simp; omega)] at hy
      simp [e1] at hy
      subst hy
      intro e2
      apply hl
      unfold lastG
      rw [List.getElem?_map, Option.map_eq_some_iff] at hx
      obtain ⟨g, hg, rfl⟩ := hx
      have : G.getLast? = some g := by rw [List.getLast?_eq_getElem?, ← e1]; simpa using hg
      rw [this]
      show (g.1.toNat : Int) = (c.toNat : Int)
      rw [e2]
theorem Parted.again {l nn : List Pr} {G : List Grp} {c : UInt8} {g : List Pr} (h : Parted l nn (G ++ [(c, g)])) {t : Bytes} {a : Int} : Parted (l ++ [(c :: t, a)]) nn (G ++ [(c, g ++ [(t, a)])]) := by
  refine ⟨by rw [h.all, flatG_append, flatG_append]; simp [flatG], h.one, fun x hx => ?_, fun i x y hx hy => h.apart i x y ?_ ?_⟩
  · rcases List.mem_append.1 hx with hx | hx
    · exact h.full x (by simp [hx])
    · simp at hx; subst hx; simp
  · rw [List.map_append] at hx ⊢; exact hx
  · rw [List.map_append] at hy ⊢; exact hy
theorem cmp_nil_not (c : Bytes) : cmpB c [] ≠ -1 := by rw [cmp_nil_r]; split <;> omega

theorem shelf_Split {K0 : Role} {s : Nat} {l : List Pr} {H : Heap} (hS : Sh K0 H s l) : Ret Try.prog 11 [ptr s 0] H (fun r H' => Keep Non H H' ∧ ∃ vn vo nn G K, r = .tuple #[vn, vo] ∧ Parted l nn G ∧ Spl K H' vn vo nn G ∧ K.From H.size) := by
  obtain ⟨b, hB, hM⟩ := hS.row
  have c0 : cel H s 0 = some (ptr b 0) := by rw [hB.cel]; rfl
  have hf := hS.few
  refine ret_of Try.func11 rfl rfl rfl rfl ?_
  intro w0
  repeat (first | refine x_move rfl rfl rfl trivial ?_ | refine x_assign rfl rfl rfl trivial ?_ | refine x_add rfl rfl rfl (wrap_i64 (by omega) (by omega)) rfl trivial ?_ | refine x_sub_ rfl rfl rfl (wrap_i64 (by omega) (by omega)) rfl trivial ?_ | refine x_peqn rfl rfl rfl rfl trivial ?_ | refine x_ibin rfl rfl rfl rfl rfl trivial ?_ | refine x_len rfl rfl (by assumption) rfl trivial ?_ | refine x_nilCheck rfl rfl rfl trivial ?_ | refine x_fieldAddr rfl rfl rfl rfl trivial ?_ | refine x_indexAddr1 rfl rfl rfl (by assumption) (by omega) (by omega) rfl trivial ?_ | refine x_indexAddr rfl rfl rfl (by assumption) (by omega) (by omega) rfl trivial ?_ | refine x_nil ?_ | refine cw_seq ?_ | refine nw_seq ?_ | refine nw_block ?_ | refine cw_block ?_ | refine cw_skip ?_ | refine cw_region ?_ | refine cw_exit rfl ?_ | refine cw_true rfl ?_ | refine cw_false rfl ?_)
  refine x_load rfl rfl (hpmt (c0)) rfl trivial ?_
  repeat (first | refine x_move rfl rfl rfl trivial ?_ | refine x_assign rfl rfl rfl trivial ?_ | refine x_add rfl rfl rfl (wrap_i64 (by omega) (by omega)) rfl trivial ?_ | refine x_sub_ rfl rfl rfl (wrap_i64 (by omega) (by omega)) rfl trivial ?_ | refine x_peqn rfl rfl rfl rfl trivial ?_ | refine x_ibin rfl rfl rfl rfl rfl trivial ?_ | refine x_len rfl rfl (by assumption) rfl trivial ?_ | refine x_nilCheck rfl rfl rfl trivial ?_ | refine x_fieldAddr rfl rfl rfl rfl trivial ?_ | refine x_indexAddr1 rfl rfl rfl (by assumption) (by omega) (by omega) rfl trivial ?_ | refine x_indexAddr rfl rfl rfl (by assumption) (by omega) (by omega) rfl trivial ?_ | refine x_nil ?_ | refine cw_seq ?_ | refine nw_seq ?_ | refine nw_block ?_ | refine cw_block ?_ | refine cw_skip ?_ | refine cw_region ?_ | refine cw_exit rfl ?_ | refine cw_true rfl ?_ | refine cw_false rfl ?_)
  refine x_call rfl rfl rfl trivial (model_All hM hS.rise (by omega) (fun p hp => by have := hS.keys p hp; omega)) ?_
  rintro va H1 ⟨hk1, hP⟩
  refine ⟨trivial, ?_⟩
  obtain ⟨qa, hqa, hoa, hda⟩ := hP.row
  have sA := hoa.sl
  have cA := sA.cap
  have hs1 := hk1.size
  obtain ⟨K1, hK1⟩ : ∃ K1 : Role, K1 = fun b => if H.size ≤ b ∧ b < H1.size then 1 else 0 := ⟨_, rfl⟩
  have hK1a : ∀ x, H.size ≤ x → x < H1.size → K1 x = 1 := fun x h1 h2 => by rw [hK1]; exact if_pos ⟨h1, h2⟩
  have hK1b : ∀ x, K1 x ≠ 0 → H.size ≤ x ∧ x < H1.size := fun x hx => by
    rw [hK1] at hx
    dsimp only at hx
    split at hx
    · assumption
    · exact absurd rfl hx
  have hkeys : ∀ (j : Nat) (p : Pr), l[j]? = some p → ∃ kk, cel H1 (sb va) (so va + j * 2) = some kk ∧ cel H1 (sb va) (so va + j * 2 + 1) = some (.int .u64 p.2) ∧ Own 1 H1 kk p.1.length (bvs p.1) ∧ (0 < sc kk → K1 (sb kk) = 1) := by
    intro j p hp
    obtain ⟨kk, h1, h2⟩ := hqa.get hp
    obtain ⟨a1, a2⟩ := cel_pcs hoa.cels h1
    exact ⟨kk, a1, a2, h2.1, fun hc => hK1a _ (h2.2 hc).1 (h2.1.lt hc)⟩
  have hva : 0 < sc va → K1 (sb va) = 1 := fun hc => hK1a _ (hP.fresh hc) (hoa.lt hc)
  repeat (first | refine x_move rfl rfl rfl trivial ?_ | refine x_assign rfl rfl rfl trivial ?_ | refine x_add rfl rfl rfl (wrap_i64 (by omega) (by omega)) rfl trivial ?_ | refine x_sub_ rfl rfl rfl (wrap_i64 (by omega) (by omega)) rfl trivial ?_ | refine x_peqn rfl rfl rfl rfl trivial ?_ | refine x_ibin rfl rfl rfl rfl rfl trivial ?_ | refine x_len rfl rfl (by assumption) rfl trivial ?_ | refine x_nilCheck rfl rfl rfl trivial ?_ | refine x_fieldAddr rfl rfl rfl rfl trivial ?_ | refine x_indexAddr1 rfl rfl rfl (by assumption) (by omega) (by omega) rfl trivial ?_ | refine x_indexAddr rfl rfl rfl (by assumption) (by omega) (by omega) rfl trivial ?_ | refine x_nil ?_ | refine cw_seq ?_ | refine nw_seq ?_ | refine nw_block ?_ | refine cw_block ?_ | refine cw_skip ?_ | refine cw_region ?_ | refine cw_exit rfl ?_ | refine cw_true rfl ?_ | refine cw_false rfl ?_)
  refine cw_loop (fun s : Nat × Value × Value × Role × List Pr × List Grp => [(16, va), (17, .int .i64 l.length), (18, .int .i64 s.1), (4, s.2.1), (5, s.2.2.1), (6, .int .i64 (lastG s.2.2.2.2.2))]) (fun s H' => s.1 ≤ l.length ∧ Keep (fun z => H.size ≤ z ∧ K1 z = 0) H1 H' ∧ Parted (l.take s.1) s.2.2.2.2.1 s.2.2.2.2.2 ∧ Spl s.2.2.2.1 H' s.2.1 s.2.2.1 s.2.2.2.2.1 s.2.2.2.2.2 ∧ (∀ x, K1 x = 1 → s.2.2.2.1 x = 1) ∧ s.2.2.2.1.From H.size) (fun s => l.length - s.1) (0, _, _, K1, [], []) (by repeat (first | exact True.intro | refine ⟨rfl, ?_⟩)) ⟨Nat.zero_le _, Keep.refl _ _, ⟨by simp [flatG], .inl rfl, by simp, by simp⟩, ⟨fun x hx => (hK1b x hx).2, ⟨[], Own.nil 2 H1, fun hc => by simp [sc] at hc, Pk.nil _⟩, Rw.nil _ _ _ _, fun hc => by simp [sc] at hc⟩, fun x h => h, fun x hx => (hK1b x hx).1⟩ ?_
  rintro ⟨j, vn, vo, K, nn, G⟩ H2 ⟨hj, hk2, hPt, hSp, hK, hF⟩
  dsimp only at hj hPt hSp hK hF ⊢
  have hs2 := hk2.size
  repeat (first | refine x_move rfl rfl rfl trivial ?_ | refine x_assign rfl rfl rfl trivial ?_ | refine x_add rfl rfl rfl (wrap_i64 (by omega) (by omega)) rfl trivial ?_ | refine x_sub_ rfl rfl rfl (wrap_i64 (by omega) (by omega)) rfl trivial ?_ | refine x_peqn rfl rfl rfl rfl trivial ?_ | refine x_ibin rfl rfl rfl rfl rfl trivial ?_ | refine x_len rfl rfl (by assumption) rfl trivial ?_ | refine x_nilCheck rfl rfl rfl trivial ?_ | refine x_fieldAddr rfl rfl rfl rfl trivial ?_ | refine x_indexAddr1 rfl rfl rfl (by assumption) (by omega) (by omega) rfl trivial ?_ | refine x_indexAddr rfl rfl rfl (by assumption) (by omega) (by omega) rfl trivial ?_ | refine x_nil ?_ | refine cw_seq ?_ | refine nw_seq ?_ | refine nw_block ?_ | refine cw_block ?_ | refine cw_skip ?_ | refine cw_region ?_ | refine cw_exit rfl ?_ | refine cw_true rfl ?_ | refine cw_false rfl ?_)
  refine cw_cond rfl (fun h1 => ?_) (fun h1 => ?_) <;> (try simp at h1)
  · obtain ⟨p, hp⟩ := getp (l := l) h1
    obtain ⟨kk, a1, a2, a3, a4⟩ := hkeys j p hp
    have pva : 0 < sc va := by omega
    have hn1 : ∀ x, K1 x = 1 → ¬ (H.size ≤ x ∧ K1 x = 0) := fun x e h => by omega
    have a1' := hk2.cel a1 (hn1 _ (hva pva))
    have a2' := hk2.cel a2 (hn1 _ (hva pva))
    have a3' := a3.keep hk2 (fun hc => hn1 _ (a4 hc))
    repeat (first | refine x_move rfl rfl rfl trivial ?_ | refine x_assign rfl rfl rfl trivial ?_ | refine x_add rfl rfl rfl (wrap_i64 (by omega) (by omega)) rfl trivial ?_ | refine x_sub_ rfl rfl rfl (wrap_i64 (by omega) (by omega)) rfl trivial ?_ | refine x_peqn rfl rfl rfl rfl trivial ?_ | refine x_ibin rfl rfl rfl rfl rfl trivial ?_ | refine x_len rfl rfl (by assumption) rfl trivial ?_ | refine x_nilCheck rfl rfl rfl trivial ?_ | refine x_fieldAddr rfl rfl rfl rfl trivial ?_ | refine x_indexAddr1 rfl rfl rfl (by assumption) (by omega) (by omega) rfl trivial ?_ | refine x_indexAddr rfl rfl rfl (by assumption) (by omega) (by omega) rfl trivial ?_ | refine x_nil ?_ | refine cw_seq ?_ | refine nw_seq ?_ | refine nw_block ?_ | refine cw_block ?_ | refine cw_skip ?_ | refine cw_region ?_ | refine cw_exit rfl ?_ | refine cw_true rfl ?_ | refine cw_false rfl ?_)
    refine x_loads (cs := [kk, .int .u64 p.2]) rfl rfl rfl (hpmt (cels_two a1' a2')) rfl trivial ?_
    refine x_alloc rfl rfl trivial ?_
    intro H3 hn3
    refine ⟨trivial, ?_⟩
    refine x_stores rfl rfl rfl rfl (two_oneC' (isSl_oneC a3.sl)) hn3.blk (by simp) trivial ?_
    intro H4 hB4 hk4 hs4
    refine ⟨trivial, ?_⟩
    have hk24 : Keep Non H2 H4 := keep_at hn3.keep hk4 (Nat.le_refl _)
    have d0 : cel H4 H2.size 0 = some kk := by rw [hB4.cel]; rfl
    have d1 : cel H4 H2.size 1 = some (.int .u64 p.2) := by rw [hB4.cel]; rfl
    have hSp4 := hSp.keepN hk24
    have a34 := a3'.keep hk24 (fun _ h => h)
    have sK := a34.sl
    have hs3 := hn3.size
    have htk : l.take (j + 1) = l.take j ++ [p] := by rw [List.take_add_one, hp]; rfl
    repeat (first | refine x_move rfl rfl rfl trivial ?_ | refine x_assign rfl rfl rfl trivial ?_ | refine x_add rfl rfl rfl (wrap_i64 (by omega) (by omega)) rfl trivial ?_ | refine x_sub_ rfl rfl rfl (wrap_i64 (by omega) (by omega)) rfl trivial ?_ | refine x_peqn rfl rfl rfl rfl trivial ?_ | refine x_ibin rfl rfl rfl rfl rfl trivial ?_ | refine x_len rfl rfl (by assumption) rfl trivial ?_ | refine x_nilCheck rfl rfl rfl trivial ?_ | refine x_fieldAddr rfl rfl rfl rfl trivial ?_ | refine x_indexAddr1 rfl rfl rfl (by assumption) (by omega) (by omega) rfl trivial ?_ | refine x_indexAddr rfl rfl rfl (by assumption) (by omega) (by omega) rfl trivial ?_ | refine x_nil ?_ | refine cw_seq ?_ | refine nw_seq ?_ | refine nw_block ?_ | refine cw_block ?_ | refine cw_skip ?_ | refine cw_region ?_ | refine cw_exit rfl ?_ | refine cw_true rfl ?_ | refine cw_false rfl ?_)
    refine x_load rfl rfl (hpmt (d0)) rfl trivial ?_
    repeat (first | refine x_move rfl rfl rfl trivial ?_ | refine x_assign rfl rfl rfl trivial ?_ | refine x_add rfl rfl rfl (wrap_i64 (by omega) (by omega)) rfl trivial ?_ | refine x_sub_ rfl rfl rfl (wrap_i64 (by omega) (by omega)) rfl trivial ?_ | refine x_peqn rfl rfl rfl rfl trivial ?_ | refine x_ibin rfl rfl rfl rfl rfl trivial ?_ | refine x_len rfl rfl (by assumption) rfl trivial ?_ | refine x_nilCheck rfl rfl rfl trivial ?_ | refine x_fieldAddr rfl rfl rfl rfl trivial ?_ | refine x_indexAddr1 rfl rfl rfl (by assumption) (by omega) (by omega) rfl trivial ?_ | refine x_indexAddr rfl rfl rfl (by assumption) (by omega) (by omega) rfl trivial ?_ | refine x_nil ?_ | refine cw_seq ?_ | refine nw_seq ?_ | refine nw_block ?_ | refine cw_block ?_ | refine cw_skip ?_ | refine cw_region ?_ | refine cw_exit rfl ?_ | refine cw_true rfl ?_ | refine cw_false rfl ?_)
    refine cw_cond rfl (fun h2 => ?_) (fun h2 => ?_) <;> (try simp at h2)
    · -- the key without bytes: the first of all
      have hpk : p.1 = [] := by simpa using h2
      have hj0 : j = 0 := by
        rcases Nat.eq_zero_or_pos j with h | h
        · exact h
        · obtain ⟨p0, hp0⟩ := getp (l := l) (j := 0) (by omega)
          have := rises_lt hS.rise h hp0 hp
          rw [hpk] at this
          exact absurd this (cmp_nil_not _)
      subst hj0
      have hall := hPt.all
      have hnn : nn = [] ∧ G = [] := by
        simp only [List.take_zero] at hall
        have h3 := congrArg List.length hall
        simp only [List.length_nil, List.length_append] at h3
        have h4 : nn = [] := List.length_eq_zero_iff.1 (by omega)
        refine ⟨h4, ?_⟩
        cases G with
        | nil => rfl
        | cons g G =>
          have h5 := hPt.full g (by simp)
          have h6 := List.length_pos_iff.2 h5
          simp [flatG] at h3
          omega
      obtain ⟨rfl, rfl⟩ := hnn
      repeat (first | refine x_move rfl rfl rfl trivial ?_ | refine x_assign rfl rfl rfl trivial ?_ | refine x_add rfl rfl rfl (wrap_i64 (by omega) (by omega)) rfl trivial ?_ | refine x_sub_ rfl rfl rfl (wrap_i64 (by omega) (by omega)) rfl trivial ?_ | refine x_peqn rfl rfl rfl rfl trivial ?_ | refine x_ibin rfl rfl rfl rfl rfl trivial ?_ | refine x_len rfl rfl (by assumption) rfl trivial ?_ | refine x_nilCheck rfl rfl rfl trivial ?_ | refine x_fieldAddr rfl rfl rfl rfl trivial ?_ | refine x_indexAddr1 rfl rfl rfl (by assumption) (by omega) (by omega) rfl trivial ?_ | refine x_indexAddr rfl rfl rfl (by assumption) (by omega) (by omega) rfl trivial ?_ | refine x_nil ?_ | refine cw_seq ?_ | refine nw_seq ?_ | refine nw_block ?_ | refine cw_block ?_ | refine cw_skip ?_ | refine cw_region ?_ | refine cw_exit rfl ?_ | refine cw_true rfl ?_ | refine cw_false rfl ?_)
      refine x_loads (cs := [kk, .int .u64 p.2]) rfl rfl rfl (hpmt (cels_two d0 d1)) rfl trivial ?_
      refine x_buildSliceS1 (by rfl) rfl rfl (by omega) (by rfl) rfl trivial ?_
      intro H5 hn5
      refine ⟨trivial, ?_⟩
      have hSp5 := hSp4.keepN hn5.keep
      obtain ⟨q5, g1, g2, g3⟩ := hSp5.non
      refine x_append (v := vn) (by rfl) (by rfl) (by rfl) rfl rfl rfl g1 (isSl_some (Nat.le_refl _) (by omega)) (m := 1) (cx := [kk, .int .u64 p.2]) rfl (hn5.blk.cels 0 2 (by simp)) (two_oneC' (isSl_oneC a3.sl)) (by simp) rfl trivial ?_
      intro v' H6 ap
      refine ⟨trivial, ?_⟩
      have hkey : KeyR K H5 kk p.1 := ⟨(a34.keep hn5.keep (fun _ h => h)).bs, fun hne => absurd hpk hne⟩
      have hSp6 := hSp5.none1 g3 hkey g2 ap
      have ar := hSp5.app ap g2
      have hs5 := hn5.size
      have hs6 := ar.keep.size
      repeat (first | refine x_move rfl rfl rfl trivial ?_ | refine x_assign rfl rfl rfl trivial ?_ | refine x_add rfl rfl rfl (wrap_i64 (by omega) (by omega)) rfl trivial ?_ | refine x_sub_ rfl rfl rfl (wrap_i64 (by omega) (by omega)) rfl trivial ?_ | refine x_peqn rfl rfl rfl rfl trivial ?_ | refine x_ibin rfl rfl rfl rfl rfl trivial ?_ | refine x_len rfl rfl (by assumption) rfl trivial ?_ | refine x_nilCheck rfl rfl rfl trivial ?_ | refine x_fieldAddr rfl rfl rfl rfl trivial ?_ | refine x_indexAddr1 rfl rfl rfl (by assumption) (by omega) (by omega) rfl trivial ?_ | refine x_indexAddr rfl rfl rfl (by assumption) (by omega) (by omega) rfl trivial ?_ | refine x_nil ?_ | refine cw_seq ?_ | refine nw_seq ?_ | refine nw_block ?_ | refine cw_block ?_ | refine cw_skip ?_ | refine cw_region ?_ | refine cw_exit rfl ?_ | refine cw_true rfl ?_ | refine cw_false rfl ?_)
      refine nw_round (0 + 1, v', vo, K.set (sb v') 2, [(p.1, p.2)], []) (by repeat (first | exact True.intro | refine ⟨rfl, ?_⟩)) ⟨by show 0 + 1 ≤ _; omega, (hk2.step (hk24.non_trans hn5.keep) (fun _ _ h => h.elim)).step ar.keep (fun z hz e => ⟨hF z (by rw [e.1, g2 e.2]; omega), ?_⟩), ⟨by rw [htk]; simp [flatG], .inr ⟨p.2, by rw [hpk]⟩, by simp, by simp⟩, hSp6, fun x hx => ?_, fun x hx => ?_⟩ (by show l.length - (0 + 1) < l.length - 0; omega)
      · have h7 := g2 e.2
        by_cases e7 : K1 z = 0
        · exact e7
        · have h8 := hK1b z e7
          have h9 := hK z (hK1a z h8.1 h8.2)
          rw [e.1] at h9
          omega
      · have h7 := hK x hx
        show (K.set (sb v') 2) x = 1
        rw [ar.same x (by omega)]
        exact h7
      · by_cases e : x = sb v'
        · rcases ap.place with ⟨e1, e2, e3, e4, _⟩ | ⟨e1, _⟩
          · rw [e, e1]; exact hF _ (by rw [g2 (by omega)]; omega)
          · omega
        · dsimp only at hx
          rw [Role.set_ne _ e] at hx
          exact hF x hx
    · have hne : p.1 ≠ [] := by simpa using h2
      have hpos1 := List.length_pos_iff.2 hne
      obtain ⟨c, t, hct⟩ : ∃ c t, p.1 = c :: t := by
        cases hh : p.1 with
        | nil => exact absurd hh hne
        | cons c t => exact ⟨c, t, rfl⟩
      have hb0 : cel H4 (sb kk) (so kk + 0) = some (bv c) := a34.bs.get 0 c (by rw [hct]; rfl)
      have hposk : 0 < sc kk := by have := sK.cap.1; rw [hct] at this; simp at this; omega
      have hKk : K (sb kk) = 1 := hK _ (a4 hposk)
      have hpl : p.1.length ≤ 65535 := hS.keys p (List.mem_of_getElem? hp)
      repeat (first | refine x_move rfl rfl rfl trivial ?_ | refine x_assign rfl rfl rfl trivial ?_ | refine x_add rfl rfl rfl (wrap_i64 (by omega) (by omega)) rfl trivial ?_ | refine x_sub_ rfl rfl rfl (wrap_i64 (by omega) (by omega)) rfl trivial ?_ | refine x_peqn rfl rfl rfl rfl trivial ?_ | refine x_ibin rfl rfl rfl rfl rfl trivial ?_ | refine x_len rfl rfl (by assumption) rfl trivial ?_ | refine x_nilCheck rfl rfl rfl trivial ?_ | refine x_fieldAddr rfl rfl rfl rfl trivial ?_ | refine x_indexAddr1 rfl rfl rfl (by assumption) (by omega) (by omega) rfl trivial ?_ | refine x_indexAddr rfl rfl rfl (by assumption) (by omega) (by omega) rfl trivial ?_ | refine x_nil ?_ | refine cw_seq ?_ | refine nw_seq ?_ | refine nw_block ?_ | refine cw_block ?_ | refine cw_skip ?_ | refine cw_region ?_ | refine cw_exit rfl ?_ | refine cw_true rfl ?_ | refine cw_false rfl ?_)
      refine x_load rfl rfl (hpmt (d0)) rfl trivial ?_
      repeat (first | refine x_move rfl rfl rfl trivial ?_ | refine x_assign rfl rfl rfl trivial ?_ | refine x_add rfl rfl rfl (wrap_i64 (by omega) (by omega)) rfl trivial ?_ | refine x_sub_ rfl rfl rfl (wrap_i64 (by omega) (by omega)) rfl trivial ?_ | refine x_peqn rfl rfl rfl rfl trivial ?_ | refine x_ibin rfl rfl rfl rfl rfl trivial ?_ | refine x_len rfl rfl (by assumption) rfl trivial ?_ | refine x_nilCheck rfl rfl rfl trivial ?_ | refine x_fieldAddr rfl rfl rfl rfl trivial ?_ | refine x_indexAddr1 rfl rfl rfl (by assumption) (by omega) (by omega) rfl trivial ?_ | refine x_indexAddr rfl rfl rfl (by assumption) (by omega) (by omega) rfl trivial ?_ | refine x_nil ?_ | refine cw_seq ?_ | refine nw_seq ?_ | refine nw_block ?_ | refine cw_block ?_ | refine cw_skip ?_ | refine cw_region ?_ | refine cw_exit rfl ?_ | refine cw_true rfl ?_ | refine cw_false rfl ?_)
      refine x_load rfl rfl (hpmt hb0) rfl trivial ?_
      refine x_conv_int rfl rfl rfl trivial ?_
      rw [wrap_i64 (by have := c.toNat_lt; omega) (by have := c.toNat_lt; omega)]
      repeat (first | refine x_move rfl rfl rfl trivial ?_ | refine x_assign rfl rfl rfl trivial ?_ | refine x_add rfl rfl rfl (wrap_i64 (by omega) (by omega)) rfl trivial ?_ | refine x_sub_ rfl rfl rfl (wrap_i64 (by omega) (by omega)) rfl trivial ?_ | refine x_peqn rfl rfl rfl rfl trivial ?_ | refine x_ibin rfl rfl rfl rfl rfl trivial ?_ | refine x_len rfl rfl (by assumption) rfl trivial ?_ | refine x_nilCheck rfl rfl rfl trivial ?_ | refine x_fieldAddr rfl rfl rfl rfl trivial ?_ | refine x_indexAddr1 rfl rfl rfl (by assumption) (by omega) (by omega) rfl trivial ?_ | refine x_indexAddr rfl rfl rfl (by assumption) (by omega) (by omega) rfl trivial ?_ | refine x_nil ?_ | refine cw_seq ?_ | refine nw_seq ?_ | refine nw_block ?_ | refine cw_block ?_ | refine cw_skip ?_ | refine cw_region ?_ | refine cw_exit rfl ?_ | refine cw_true rfl ?_ | refine cw_false rfl ?_)
      have hp' : p = (c :: t, p.2) := Prod.ext hct rfl
      have hSK : ∀ x, H.size ≤ x → K x ≠ 1 → (H.size ≤ x ∧ K1 x = 0) := fun x hx hk => ⟨hx, by
        by_cases e : K1 x = 0
        · exact e
        · exact absurd (hK x (hK1a x hx (hK1b x e).2)) hk⟩
      have hk14 : Keep (fun z => H.size ≤ z ∧ K1 z = 0) H1 H4 := hk2.step hk24 (fun _ _ h => h.elim)
      refine cw_cut (fun s : Value × Role × List Grp × List Pr => [(16, va), (17, .int .i64 l.length), (18, .int .i64 j), (4, vn), (5, s.1), (6, .int .i64 (c.toNat : Int)), (8, ptr H2.size 0)]) (fun s H' => Keep (fun z => H.size ≤ z ∧ K1 z = 0) H1 H' ∧ cel H' H2.size 0 = some kk ∧ cel H' H2.size 1 = some (.int .u64 p.2) ∧ Bs H' kk p.1 ∧ Spl s.2.1 H' vn s.1 nn (s.2.2.1 ++ [(c, s.2.2.2)]) ∧ Parted (l.take (j + 1)) nn (s.2.2.1 ++ [(c, s.2.2.2 ++ [(t, p.2)])]) ∧ (∀ x, K1 x = 1 → s.2.1 x = 1) ∧ s.2.1.From H.size ∧ s.2.1 H2.size = 0) ?_ ?_
      · refine cw_cond rfl (fun h3 => ?_) (fun h3 => ?_) <;> (try simp at h3)
        · repeat (first | refine x_move rfl rfl rfl trivial ?_ | refine x_assign rfl rfl rfl trivial ?_ | refine x_add rfl rfl rfl (wrap_i64 (by omega) (by omega)) rfl trivial ?_ | refine x_sub_ rfl rfl rfl (wrap_i64 (by omega) (by omega)) rfl trivial ?_ | refine x_peqn rfl rfl rfl rfl trivial ?_ | refine x_ibin rfl rfl rfl rfl rfl trivial ?_ | refine x_len rfl rfl (by assumption) rfl trivial ?_ | refine x_nilCheck rfl rfl rfl trivial ?_ | refine x_fieldAddr rfl rfl rfl rfl trivial ?_ | refine x_indexAddr1 rfl rfl rfl (by assumption) (by omega) (by omega) rfl trivial ?_ | refine x_indexAddr rfl rfl rfl (by assumption) (by omega) (by omega) rfl trivial ?_ | refine x_nil ?_ | refine cw_seq ?_ | refine nw_seq ?_ | refine nw_block ?_ | refine cw_block ?_ | refine cw_skip ?_ | refine cw_region ?_ | refine cw_exit rfl ?_ | refine cw_true rfl ?_ | refine cw_false rfl ?_)
          refine x_load rfl rfl (hpmt (d0)) rfl trivial ?_
          repeat (first | refine x_move rfl rfl rfl trivial ?_ | refine x_assign rfl rfl rfl trivial ?_ | refine x_add rfl rfl rfl (wrap_i64 (by omega) (by omega)) rfl trivial ?_ | refine x_sub_ rfl rfl rfl (wrap_i64 (by omega) (by omega)) rfl trivial ?_ | refine x_peqn rfl rfl rfl rfl trivial ?_ | refine x_ibin rfl rfl rfl rfl rfl trivial ?_ | refine x_len rfl rfl (by assumption) rfl trivial ?_ | refine x_nilCheck rfl rfl rfl trivial ?_ | refine x_fieldAddr rfl rfl rfl rfl trivial ?_ | refine x_indexAddr1 rfl rfl rfl (by assumption) (by omega) (by omega) rfl trivial ?_ | refine x_indexAddr rfl rfl rfl (by assumption) (by omega) (by omega) rfl trivial ?_ | refine x_nil ?_ | refine cw_seq ?_ | refine nw_seq ?_ | refine nw_block ?_ | refine cw_block ?_ | refine cw_skip ?_ | refine cw_region ?_ | refine cw_exit rfl ?_ | refine cw_true rfl ?_ | refine cw_false rfl ?_)
          refine x_load rfl rfl (hpmt hb0) rfl trivial ?_
          refine x_conv_int rfl rfl rfl trivial ?_
          rw [wrap_i64 (by have := c.toNat_lt; omega) (by have := c.toNat_lt; omega)]
          repeat (first | refine x_move rfl rfl rfl trivial ?_ | refine x_assign rfl rfl rfl trivial ?_ | refine x_add rfl rfl rfl (wrap_i64 (by omega) (by omega)) rfl trivial ?_ | refine x_sub_ rfl rfl rfl (wrap_i64 (by omega) (by omega)) rfl trivial ?_ | refine x_peqn rfl rfl rfl rfl trivial ?_ | refine x_ibin rfl rfl rfl rfl rfl trivial ?_ | refine x_len rfl rfl (by assumption) rfl trivial ?_ | refine x_nilCheck rfl rfl rfl trivial ?_ | refine x_fieldAddr rfl rfl rfl rfl trivial ?_ | refine x_indexAddr1 rfl rfl rfl (by assumption) (by omega) (by omega) rfl trivial ?_ | refine x_indexAddr rfl rfl rfl (by assumption) (by omega) (by omega) rfl trivial ?_ | refine x_nil ?_ | refine cw_seq ?_ | refine nw_seq ?_ | refine nw_block ?_ | refine cw_block ?_ | refine cw_skip ?_ | refine cw_region ?_ | refine cw_exit rfl ?_ | refine cw_true rfl ?_ | refine cw_false rfl ?_)
          refine x_buildSlice (vs := [.slice none 0 0]) rfl rfl rfl rfl (by omega) (by simp [oneC, Value.oneCell']) rfl trivial ?_
          intro H5 hn5
          refine ⟨trivial, ?_⟩
          have hSp5 := hSp4.keepN hn5.keep
          obtain ⟨q5, g1, g2⟩ := hSp5.out.row
          have hGl : (G.map (·.2)).zipIdx.length ≤ 100 := by
            have h4 := hPt.all
            have h5 := flatG_ge hPt.full
            have h6 := congrArg List.length h4
            rw [List.length_append, List.length_take] at h6
            simp
            omega
          refine x_append (v := vo) (by rfl) (by rfl) (by rfl) rfl rfl rfl g2 (isSl_some (Nat.le_refl _) (by omega)) (m := 1) (cx := rws encV [.slice none 0 0]) rfl (hn5.blk.cels 0 1 (by simp)) (rws_oneC (fun x hx => by simp at hx; subst hx; exact oc_cons rfl oc_nil)) (by omega) rfl trivial ?_
          intro vo' H6 ap
          refine ⟨trivial, ?_⟩
          have hSp6 := hSp5.more c g1 ap
          have ar := hSp5.app ap hSp5.ko
          have hs5 := hn5.size
          have hkeepS : ∀ z, (z = sb vo ∧ 0 < sc vo) → H.size ≤ z ∧ K z = 3 := fun z e => ⟨hF z (by rw [e.1, hSp5.ko e.2]; omega), by rw [e.1]; exact hSp5.ko e.2⟩
          have hn8 : ∀ z, z = H2.size → ¬ (z = sb vo ∧ 0 < sc vo) := fun z hz e => by
            have h7 := (hkeepS z e).2
            have h8 := hSp.kin z (by omega)
            omega
          have hnk : ∀ x, K x = 1 → ¬ (x = sb vo ∧ 0 < sc vo) := fun x hx e => by have := (hkeepS x e).2; omega
          repeat (first | refine x_move rfl rfl rfl trivial ?_ | refine x_assign rfl rfl rfl trivial ?_ | refine x_add rfl rfl rfl (wrap_i64 (by omega) (by omega)) rfl trivial ?_ | refine x_sub_ rfl rfl rfl (wrap_i64 (by omega) (by omega)) rfl trivial ?_ | refine x_peqn rfl rfl rfl rfl trivial ?_ | refine x_ibin rfl rfl rfl rfl rfl trivial ?_ | refine x_len rfl rfl (by assumption) rfl trivial ?_ | refine x_nilCheck rfl rfl rfl trivial ?_ | refine x_fieldAddr rfl rfl rfl rfl trivial ?_ | refine x_indexAddr1 rfl rfl rfl (by assumption) (by omega) (by omega) rfl trivial ?_ | refine x_indexAddr rfl rfl rfl (by assumption) (by omega) (by omega) rfl trivial ?_ | refine x_nil ?_ | refine cw_seq ?_ | refine nw_seq ?_ | refine nw_block ?_ | refine cw_block ?_ | refine cw_skip ?_ | refine cw_region ?_ | refine cw_exit rfl ?_ | refine cw_true rfl ?_ | refine cw_false rfl ?_)
          refine nw_meet (vo', K.set (sb vo') 3, G, []) (by repeat (first | exact True.intro | refine ⟨rfl, ?_⟩)) ⟨(hk14.step hn5.keep (fun _ _ h => h.elim)).step ar.keep (fun z hz e => by have h7 := hkeepS z e; exact hSK z h7.1 (by omega)), ar.keep.cel (hn5.keep.cel d0 (fun h => h)) (hn8 _ rfl), ar.keep.cel (hn5.keep.cel d1 (fun h => h)) (hn8 _ rfl), (a34.bs.keepN hn5.keep).keep ar.keep (fun _ => hnk _ hKk), hSp6, ?_, fun x hx => ?_, fun x hx => ?_, ?_⟩
          · have hll : lastG G ≠ (c.toNat : Int) := by omega
            have := hPt.fresh (t := t) (a := p.2) hll
            rw [← hp', ← htk] at this
            exact this
          · have h7 := hK x hx
            show (K.set (sb vo') 3) x = 1
            rw [ar.same x (by omega)]
            exact h7
          · by_cases e : x = sb vo'
            · rcases ap.place with ⟨e1, e2, e3, e4, _⟩ | ⟨e1, _⟩
              · rw [e, e1]; exact (hkeepS (sb vo) ⟨rfl, by omega⟩).1
              · omega
            · dsimp only at hx
              rw [Role.set_ne _ e] at hx
              exact hF x hx
          · show (K.set (sb vo') 3) H2.size = 0
            have hz0 : K H2.size = 0 := hSp.kin.off (Nat.le_refl _)
            rw [Role.set_ne _ (fun e => ?_)]
            · exact hz0
            · rcases ap.place with ⟨e1, e2, e3, e4, _⟩ | ⟨e1, _⟩
              · have := (hkeepS (sb vo) ⟨rfl, by omega⟩).2
                rw [← e1, ← e] at this
                omega
              · omega
        · obtain ⟨G0, g, hG⟩ := lastG_ge (G := G) (c := c) (by omega)
          repeat (first | refine x_move rfl rfl rfl trivial ?_ | refine x_assign rfl rfl rfl trivial ?_ | refine x_add rfl rfl rfl (wrap_i64 (by omega) (by omega)) rfl trivial ?_ | refine x_sub_ rfl rfl rfl (wrap_i64 (by omega) (by omega)) rfl trivial ?_ | refine x_peqn rfl rfl rfl rfl trivial ?_ | refine x_ibin rfl rfl rfl rfl rfl trivial ?_ | refine x_len rfl rfl (by assumption) rfl trivial ?_ | refine x_nilCheck rfl rfl rfl trivial ?_ | refine x_fieldAddr rfl rfl rfl rfl trivial ?_ | refine x_indexAddr1 rfl rfl rfl (by assumption) (by omega) (by omega) rfl trivial ?_ | refine x_indexAddr rfl rfl rfl (by assumption) (by omega) (by omega) rfl trivial ?_ | refine x_nil ?_ | refine cw_seq ?_ | refine nw_seq ?_ | refine nw_block ?_ | refine cw_block ?_ | refine cw_skip ?_ | refine cw_region ?_ | refine cw_exit rfl ?_ | refine cw_true rfl ?_ | refine cw_false rfl ?_)
          have h6 : (Value.int .i64 (lastG G)) = .int .i64 (c.toNat : Int) := by congr 1; omega
          rw [h6]
          refine nw_meet (vo, K, G0, g) (by repeat (first | exact True.intro | refine ⟨rfl, ?_⟩)) ⟨hk14, d0, d1, a34.bs, by rw [← hG]; exact hSp4, ?_, hK, hF, hSp.kin.off (Nat.le_refl _)⟩
          rw [hG] at hPt
          have := hPt.again (t := t) (a := p.2)
          rw [← hp', ← htk] at this
          exact this
      · rintro ⟨vo5, K5, G0, g⟩ H5 ⟨hk5, e0, e1, hB5, hSp5, hPt5, hK5, hF5, hZ5⟩
        dsimp only at hSp5 hPt5 hK5 hF5 hZ5 ⊢
        have hy : (G0 ++ [(c, g)])[G0.length]? = some (c, g) := by simp
        obtain ⟨x, hx, hgr⟩ := hSp5.at_ hy
        have sO := hSp5.out.sl
        have hOl : (List.map (fun x => x.2) (G0 ++ [(c, g)])).zipIdx.length = G0.length + 1 := by simp
        rw [hOl] at sO
        have cO := sO.cap
        have hkr := Keep.refl (fun z => K5 z = 10 + G0.length) H5
        have hko5 := hSp5.ko (by omega)
        have hgl : g.length ≤ 10 := by
          have h7 := congrArg List.length hPt5.all
          rw [flatG_append] at h7
          simp [flatG] at h7
          omega
        have hG0l : G0.length ≤ 100000 := by
          have h7 := congrArg List.length hPt5.all
          have h8 := flatG_ge (G := G0) (fun x hx => hPt5.full x (by simp [hx]))
          rw [flatG_append, List.length_append, List.length_append, List.length_take] at h7
          omega
        have sK5 := hB5.sl
        repeat (first | refine x_move rfl rfl rfl trivial ?_ | refine x_assign rfl rfl rfl trivial ?_ | refine x_add rfl rfl rfl (wrap_i64 (by omega) (by omega)) rfl trivial ?_ | refine x_sub_ rfl rfl rfl (wrap_i64 (by omega) (by omega)) rfl trivial ?_ | refine x_peqn rfl rfl rfl rfl trivial ?_ | refine x_ibin rfl rfl rfl rfl rfl trivial ?_ | refine x_len rfl rfl (by assumption) rfl trivial ?_ | refine x_nilCheck rfl rfl rfl trivial ?_ | refine x_fieldAddr rfl rfl rfl rfl trivial ?_ | refine x_indexAddr1 rfl rfl rfl (by assumption) (by omega) (by omega) rfl trivial ?_ | refine x_indexAddr rfl rfl rfl (by assumption) (by omega) (by omega) rfl trivial ?_ | refine x_nil ?_ | refine cw_seq ?_ | refine nw_seq ?_ | refine nw_block ?_ | refine cw_block ?_ | refine cw_skip ?_ | refine cw_region ?_ | refine cw_exit rfl ?_ | refine cw_true rfl ?_ | refine cw_false rfl ?_)
        refine cw_as 9 (.int .i64 (G0.length : Int)) rfl (by congr 1; omega) ?_
        repeat (first | refine x_move rfl rfl rfl trivial ?_ | refine x_assign rfl rfl rfl trivial ?_ | refine x_add rfl rfl rfl (wrap_i64 (by omega) (by omega)) rfl trivial ?_ | refine x_sub_ rfl rfl rfl (wrap_i64 (by omega) (by omega)) rfl trivial ?_ | refine x_peqn rfl rfl rfl rfl trivial ?_ | refine x_ibin rfl rfl rfl rfl rfl trivial ?_ | refine x_len rfl rfl (by assumption) rfl trivial ?_ | refine x_nilCheck rfl rfl rfl trivial ?_ | refine x_fieldAddr rfl rfl rfl rfl trivial ?_ | refine x_indexAddr1 rfl rfl rfl (by assumption) (by omega) (by omega) rfl trivial ?_ | refine x_indexAddr rfl rfl rfl (by assumption) (by omega) (by omega) rfl trivial ?_ | refine x_nil ?_ | refine cw_seq ?_ | refine nw_seq ?_ | refine nw_block ?_ | refine cw_block ?_ | refine cw_skip ?_ | refine cw_region ?_ | refine cw_exit rfl ?_ | refine cw_true rfl ?_ | refine cw_false rfl ?_)
        refine cw_held (fun _ => Keep (fun z => K5 z = 10 + G0.length) H5) ⟨[12, 13, 15], [(5, 0), (7, 0), (10, 0)]⟩ (.op 0 (.op 1 (.op 2 (.op 3 (.op 4 (.op 5 (.op 6 (.op 7 (.op 8 (.op 9 (.op 10 (.op 11 (.op 12 (.op 13 (.op 14 (.op 15 (.nil))))))))))))))))) panicOk_body mixed (by kernel_rfl) ?_
        repeat (first | refine x_move rfl rfl rfl (okq_reg rfl rfl) ?_ | refine x_assign rfl rfl rfl (okq_reg rfl rfl) ?_ | refine x_add rfl rfl rfl (wrap_i64 (by omega) (by omega)) rfl (okq_reg rfl rfl) ?_ | refine x_sub_ rfl rfl rfl (wrap_i64 (by omega) (by omega)) rfl (okq_reg rfl rfl) ?_ | refine x_ibin rfl rfl rfl rfl rfl (okq_reg rfl rfl) ?_ | refine x_len rfl rfl (by assumption) rfl (okq_reg rfl rfl) ?_ | refine x_nilCheck rfl rfl rfl (okq_reg rfl rfl) ?_ | refine x_fieldAddr rfl rfl rfl rfl (okq_reg rfl rfl) ?_ | refine x_indexAddr1 rfl rfl rfl (by assumption) (by omega) (by omega) rfl (okq_reg rfl rfl) ?_ | refine x_indexAddr rfl rfl rfl (by assumption) (by omega) (by omega) rfl (okq_reg rfl rfl) ?_ | refine x_nil ?_ | refine cw_seq ?_ | refine nw_seq ?_ | refine nw_block ?_ | refine cw_block ?_ | refine cw_skip ?_ | refine cw_region ?_ | refine cw_exit rfl ?_ | refine cw_true rfl ?_ | refine cw_false rfl ?_)
        refine x_load rfl rfl (hpmk rfl (fun _ hk => hk.cel hx (fun h => by rw [hko5] at h; omega))) rfl (okq_load rfl rfl (by assumption)) ?_
        repeat (first | refine x_move rfl rfl rfl (okq_reg rfl rfl) ?_ | refine x_assign rfl rfl rfl (okq_reg rfl rfl) ?_ | refine x_add rfl rfl rfl (wrap_i64 (by omega) (by omega)) rfl (okq_reg rfl rfl) ?_ | refine x_sub_ rfl rfl rfl (wrap_i64 (by omega) (by omega)) rfl (okq_reg rfl rfl) ?_ | refine x_ibin rfl rfl rfl rfl rfl (okq_reg rfl rfl) ?_ | refine x_len rfl rfl (by assumption) rfl (okq_reg rfl rfl) ?_ | refine x_nilCheck rfl rfl rfl (okq_reg rfl rfl) ?_ | refine x_fieldAddr rfl rfl rfl rfl (okq_reg rfl rfl) ?_ | refine x_indexAddr1 rfl rfl rfl (by assumption) (by omega) (by omega) rfl (okq_reg rfl rfl) ?_ | refine x_indexAddr rfl rfl rfl (by assumption) (by omega) (by omega) rfl (okq_reg rfl rfl) ?_ | refine x_nil ?_ | refine cw_seq ?_ | refine nw_seq ?_ | refine nw_block ?_ | refine cw_block ?_ | refine cw_skip ?_ | refine cw_region ?_ | refine cw_exit rfl ?_ | refine cw_true rfl ?_ | refine cw_false rfl ?_)
        refine x_load rfl rfl (hpmk rfl (fun _ hk => hk.cel e0 (fun h => by rw [hZ5] at h; omega))) rfl (okq_load rfl rfl (by assumption)) ?_
        repeat (first | refine x_move rfl rfl rfl (okq_reg rfl rfl) ?_ | refine x_assign rfl rfl rfl (okq_reg rfl rfl) ?_ | refine x_add rfl rfl rfl (wrap_i64 (by omega) (by omega)) rfl (okq_reg rfl rfl) ?_ | refine x_sub_ rfl rfl rfl (wrap_i64 (by omega) (by omega)) rfl (okq_reg rfl rfl) ?_ | refine x_ibin rfl rfl rfl rfl rfl (okq_reg rfl rfl) ?_ | refine x_len rfl rfl (by assumption) rfl (okq_reg rfl rfl) ?_ | refine x_nilCheck rfl rfl rfl (okq_reg rfl rfl) ?_ | refine x_fieldAddr rfl rfl rfl rfl (okq_reg rfl rfl) ?_ | refine x_indexAddr1 rfl rfl rfl (by assumption) (by omega) (by omega) rfl (okq_reg rfl rfl) ?_ | refine x_indexAddr rfl rfl rfl (by assumption) (by omega) (by omega) rfl (okq_reg rfl rfl) ?_ | refine x_nil ?_ | refine cw_seq ?_ | refine nw_seq ?_ | refine nw_block ?_ | refine cw_block ?_ | refine cw_skip ?_ | refine cw_region ?_ | refine cw_exit rfl ?_ | refine cw_true rfl ?_ | refine cw_false rfl ?_)
        refine x_slice_l rfl rfl rfl sK5 (by omega) (by omega) rfl (okq_reg rfl rfl) ?_
        intro u1 hu1 hc1
        repeat (first | refine x_move rfl rfl rfl (okq_reg rfl rfl) ?_ | refine x_assign rfl rfl rfl (okq_reg rfl rfl) ?_ | refine x_add rfl rfl rfl (wrap_i64 (by omega) (by omega)) rfl (okq_reg rfl rfl) ?_ | refine x_sub_ rfl rfl rfl (wrap_i64 (by omega) (by omega)) rfl (okq_reg rfl rfl) ?_ | refine x_ibin rfl rfl rfl rfl rfl (okq_reg rfl rfl) ?_ | refine x_len rfl rfl (by assumption) rfl (okq_reg rfl rfl) ?_ | refine x_nilCheck rfl rfl rfl (okq_reg rfl rfl) ?_ | refine x_fieldAddr rfl rfl rfl rfl (okq_reg rfl rfl) ?_ | refine x_indexAddr1 rfl rfl rfl (by assumption) (by omega) (by omega) rfl (okq_reg rfl rfl) ?_ | refine x_indexAddr rfl rfl rfl (by assumption) (by omega) (by omega) rfl (okq_reg rfl rfl) ?_ | refine x_nil ?_ | refine cw_seq ?_ | refine nw_seq ?_ | refine nw_block ?_ | refine cw_block ?_ | refine cw_skip ?_ | refine cw_region ?_ | refine cw_exit rfl ?_ | refine cw_true rfl ?_ | refine cw_false rfl ?_)
        refine x_load rfl rfl (hpmk rfl (fun _ hk => hk.cel e1 (fun h => by rw [hZ5] at h; omega))) rfl (okq_load rfl rfl (by assumption)) ?_
        have hU : Bs H5 u1 t := by
          have h7 := hB5.cut (a := 1) (b := p.1.length) hu1 hc1 (by omega) (Nat.le_refl _)
          rw [List.take_length, hct] at h7
          exact h7
        have hkey : KeyR K5 H5 u1 t := ⟨hU, fun hne => by
          have h7 := List.length_pos_iff.2 hne
          have h8 : p.1.length = t.length + 1 := by rw [hct]; rfl
          rw [(hc1.at_ (show (1 : Int).toNat < sc kk by have := sK5.cap.1; show 1 < sc kk; omega)).1]
          exact hK5 _ (a4 hposk)⟩
        repeat (first | refine x_move rfl rfl rfl (okq_reg rfl rfl) ?_ | refine x_assign rfl rfl rfl (okq_reg rfl rfl) ?_ | refine x_add rfl rfl rfl (wrap_i64 (by omega) (by omega)) rfl (okq_reg rfl rfl) ?_ | refine x_sub_ rfl rfl rfl (wrap_i64 (by omega) (by omega)) rfl (okq_reg rfl rfl) ?_ | refine x_ibin rfl rfl rfl rfl rfl (okq_reg rfl rfl) ?_ | refine x_len rfl rfl (by assumption) rfl (okq_reg rfl rfl) ?_ | refine x_nilCheck rfl rfl rfl (okq_reg rfl rfl) ?_ | refine x_fieldAddr rfl rfl rfl rfl (okq_reg rfl rfl) ?_ | refine x_indexAddr1 rfl rfl rfl (by assumption) (by omega) (by omega) rfl (okq_reg rfl rfl) ?_ | refine x_indexAddr rfl rfl rfl (by assumption) (by omega) (by omega) rfl (okq_reg rfl rfl) ?_ | refine x_nil ?_ | refine cw_seq ?_ | refine nw_seq ?_ | refine nw_block ?_ | refine cw_block ?_ | refine cw_skip ?_ | refine cw_region ?_ | refine cw_exit rfl ?_ | refine cw_true rfl ?_ | refine cw_false rfl ?_)
        refine x_build (cs := [u1, .int .u64 (p.2)]) rfl rfl rfl (two_oneC (isSl_oneC hU.sl)) rfl (okq_reg rfl rfl) ?_
        refine x_buildSliceS1 (by rfl) rfl rfl (by omega) (by rfl) rfl ⟨rfl, rfl⟩ ?_
        intro H6 hn6
        have hSp6 := hSp5.keepN hn6.keep
        have hk6 : KeyR K5 H6 u1 t := hkey.step hn6.keep (fun _ _ h => h) (fun _ h => h)
        refine ⟨okm_keep hn6.keep (fun _ _ h => h.elim), ?_⟩
        obtain ⟨q6, ho6, hgrow⟩ := hSp6.grow hy (hn6.keep.cel hx (fun h => h)) (a := p.2) hk6
        refine x_append (v := x) (by rfl) (by rfl) (by rfl) rfl rfl rfl ho6 (isSl_some (Nat.le_refl _) (by omega)) (m := 1) (cx := [u1, .int .u64 p.2]) rfl (hn6.blk.cels 0 2 (by simp)) (two_oneC' (isSl_oneC hU.sl)) (by show (g.length + 1) * _ ≤ _; omega) rfl ⟨rfl, rfl⟩ ?_
        intro x' H7 ap
        obtain ⟨hk7, hO7, r, hB7, hr7, hst⟩ := hgrow x' H7 ap
        refine ⟨okm_keep hk7 (fun _ _ h => h), ?_⟩
        have hs6 := hn6.size
        have hs7 := hk7.size
        repeat (first | refine x_move rfl rfl rfl (okq_reg rfl rfl) ?_ | refine x_assign rfl rfl rfl (okq_reg rfl rfl) ?_ | refine x_add rfl rfl rfl (wrap_i64 (by omega) (by omega)) rfl (okq_reg rfl rfl) ?_ | refine x_sub_ rfl rfl rfl (wrap_i64 (by omega) (by omega)) rfl (okq_reg rfl rfl) ?_ | refine x_ibin rfl rfl rfl rfl rfl (okq_reg rfl rfl) ?_ | refine x_len rfl rfl (by assumption) rfl (okq_reg rfl rfl) ?_ | refine x_nilCheck rfl rfl rfl (okq_reg rfl rfl) ?_ | refine x_fieldAddr rfl rfl rfl rfl (okq_reg rfl rfl) ?_ | refine x_indexAddr1 rfl rfl rfl (by assumption) (by omega) (by omega) rfl (okq_reg rfl rfl) ?_ | refine x_indexAddr rfl rfl rfl (by assumption) (by omega) (by omega) rfl (okq_reg rfl rfl) ?_ | refine x_nil ?_ | refine cw_seq ?_ | refine nw_seq ?_ | refine nw_block ?_ | refine cw_block ?_ | refine cw_skip ?_ | refine cw_region ?_ | refine cw_exit rfl ?_ | refine cw_true rfl ?_ | refine cw_false rfl ?_)
        refine x_store rfl rfl rfl hO7 hB7 (by omega) ⟨rfl, rfl⟩ ?_
        intro H8 hB8 hk8 hs8
        refine ⟨okm_free (fun c => by cases c <;> kernel_rfl), ?_⟩
        have hSp8 := hst H8 hB8 hk8
        repeat (first | refine x_move rfl rfl rfl (okq_reg rfl rfl) ?_ | refine x_assign rfl rfl rfl (okq_reg rfl rfl) ?_ | refine x_add rfl rfl rfl (wrap_i64 (by omega) (by omega)) rfl (okq_reg rfl rfl) ?_ | refine x_sub_ rfl rfl rfl (wrap_i64 (by omega) (by omega)) rfl (okq_reg rfl rfl) ?_ | refine x_ibin rfl rfl rfl rfl rfl (okq_reg rfl rfl) ?_ | refine x_len rfl rfl (by assumption) rfl (okq_reg rfl rfl) ?_ | refine x_nilCheck rfl rfl rfl (okq_reg rfl rfl) ?_ | refine x_fieldAddr rfl rfl rfl rfl (okq_reg rfl rfl) ?_ | refine x_indexAddr1 rfl rfl rfl (by assumption) (by omega) (by omega) rfl (okq_reg rfl rfl) ?_ | refine x_indexAddr rfl rfl rfl (by assumption) (by omega) (by omega) rfl (okq_reg rfl rfl) ?_ | refine x_nil ?_ | refine cw_seq ?_ | refine nw_seq ?_ | refine nw_block ?_ | refine cw_block ?_ | refine cw_skip ?_ | refine cw_region ?_ | refine cw_exit rfl ?_ | refine cw_true rfl ?_ | refine cw_false rfl ?_)
        repeat (first | refine x_move rfl rfl rfl trivial ?_ | refine x_assign rfl rfl rfl trivial ?_ | refine x_add rfl rfl rfl (wrap_i64 (by omega) (by omega)) rfl trivial ?_ | refine x_sub_ rfl rfl rfl (wrap_i64 (by omega) (by omega)) rfl trivial ?_ | refine x_peqn rfl rfl rfl rfl trivial ?_ | refine x_ibin rfl rfl rfl rfl rfl trivial ?_ | refine x_len rfl rfl (by assumption) rfl trivial ?_ | refine x_nilCheck rfl rfl rfl trivial ?_ | refine x_fieldAddr rfl rfl rfl rfl trivial ?_ | refine x_indexAddr1 rfl rfl rfl (by assumption) (by omega) (by omega) rfl trivial ?_ | refine x_indexAddr rfl rfl rfl (by assumption) (by omega) (by omega) rfl trivial ?_ | refine x_nil ?_ | refine cw_seq ?_ | refine nw_seq ?_ | refine nw_block ?_ | refine cw_block ?_ | refine cw_skip ?_ | refine cw_region ?_ | refine cw_exit rfl ?_ | refine cw_true rfl ?_ | refine cw_false rfl ?_)
        have hset : (G0 ++ [(c, g)]).set G0.length (c, g ++ [(t, p.2)]) = G0 ++ [(c, g ++ [(t, p.2)])] := by rw [List.set_append_right _ _ (Nat.le_refl _)]; simp
        rw [hset] at hSp8
        have hpo : 0 < sc vo5 := by omega
        have hko := hSp5.ko hpo
        have hSK5 : ∀ x, H.size ≤ x → K5 x ≠ 1 → (H.size ≤ x ∧ K1 x = 0) := fun x hx hk => ⟨hx, by
          by_cases e : K1 x = 0
          · exact e
          · exact absurd (hK5 x (hK1a x hx (hK1b x e).2)) hk⟩
        have h10 : ∀ z, K5 z = 10 + G0.length → H.size ≤ z := fun z hz => hF5 z (by omega)
        have hs5 := hk5.size
        have hin6 := hSp6.kin
        have hxr : 0 < sc x → K5 (sb x) = 10 + G0.length := by obtain ⟨_, _, h7, _⟩ := hgr; exact h7
        have hx'r : sb x' < H6.size → K5 (sb x') = 10 + G0.length := fun hlt => by
          rcases ap.place with ⟨e1, e2, e3, e4, _⟩ | ⟨e1, _⟩
          · rw [e1]; exact hxr (by omega)
          · omega
        have hsame : ∀ z, K5 z ≠ 0 → (K5.set (sb x') (10 + G0.length)) z = K5 z := fun z hz => by
          by_cases e : z = sb x'
          · rw [e, Role.set_at, hx'r (by rw [← e]; exact hin6 z hz)]
          · exact Role.set_ne _ e
        refine nw_round (j + 1, vn, vo5, K5.set (sb x') (10 + G0.length), nn, G0 ++ [(c, g ++ [(t, p.2)])]) ⟨rfl, rfl, rfl, rfl, rfl, ?_, trivial⟩ ⟨by show j + 1 ≤ _; omega, ((hk5.step hn6.keep (fun _ _ h => h.elim)).step hk7 (fun z _ e => hSK5 z (h10 z e) (by omega))).step hk8 (fun z _ e => hSK5 z (hF5 z (by rw [e, hko]; omega)) (by rw [e, hko]; omega)), hPt5, hSp8, fun z hz => ?_, fun z hz => ?_⟩ (by show l.length - (j + 1) < l.length - j; omega)
        · show _ = some (Value.int .i64 (lastG (G0 ++ [(c, g ++ [(t, p.2)])])))
          rw [lastG_snoc]
          rfl
        · show (K5.set (sb x') (10 + G0.length)) z = 1
          have := hK5 z hz
          rw [hsame z (by omega)]
          exact this
        · dsimp only at hz
          by_cases e : z = sb x'
          · by_cases hlt : sb x' < H6.size
            · rw [e]; exact h10 _ (hx'r hlt)
            · omega
          · rw [Role.set_ne _ e] at hz
            exact hF5 z hz
  · have hje : j = l.length := by omega
    subst hje
    rw [List.take_length] at hPt
    repeat (first | refine x_move rfl rfl rfl trivial ?_ | refine x_assign rfl rfl rfl trivial ?_ | refine x_add rfl rfl rfl (wrap_i64 (by omega) (by omega)) rfl trivial ?_ | refine x_sub_ rfl rfl rfl (wrap_i64 (by omega) (by omega)) rfl trivial ?_ | refine x_peqn rfl rfl rfl rfl trivial ?_ | refine x_ibin rfl rfl rfl rfl rfl trivial ?_ | refine x_len rfl rfl (by assumption) rfl trivial ?_ | refine x_nilCheck rfl rfl rfl trivial ?_ | refine x_fieldAddr rfl rfl rfl rfl trivial ?_ | refine x_indexAddr1 rfl rfl rfl (by assumption) (by omega) (by omega) rfl trivial ?_ | refine x_indexAddr rfl rfl rfl (by assumption) (by omega) (by omega) rfl trivial ?_ | refine x_nil ?_ | refine cw_seq ?_ | refine nw_seq ?_ | refine nw_block ?_ | refine cw_block ?_ | refine cw_skip ?_ | refine cw_region ?_ | refine cw_exit rfl ?_ | refine cw_true rfl ?_ | refine cw_false rfl ?_)
    refine cw_ret2 rfl rfl rfl ⟨hk1.old hk2 (fun z hz e => by omega), vn, vo, nn, G, K, rfl, hPt, hSp, hF⟩
end Go.Proofs.Ytngnoapfmfneaaa.X
