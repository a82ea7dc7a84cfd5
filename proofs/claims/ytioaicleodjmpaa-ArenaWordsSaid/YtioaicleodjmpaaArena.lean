/- The package arena: what its functions answer. -/
import Derived.Test.YtioaicleodjmpaaTypes
import Derived.Test.YtioaicleodjmpaaKarena
namespace Go.Proofs.Ytioaicleodjmpaa.X
open Go Go.Proofs
set_option linter.unusedVariables false
set_option maxRecDepth 10000
set_option maxHeartbeats 2000000

theorem hpmt {H : Heap} {p : Heap → Prop} (h : p H) : ∀ H', H' = H → p H' := fun _ e => e ▸ h
def encC (x : Value × Bool) : List Value := [x.1, .bool x.2]
theorem encC_len (x : Value × Bool) : (encC x).length = 2 := rfl
def u64s (l : List Int) : List Value := l.map (Value.int .u64)
theorem u64s_length (l : List Int) : (u64s l).length = l.length := by simp [u64s]
theorem u64s_oneC (l : List Int) : ∀ v ∈ u64s l, oneC v = true := by
  intro v hv
  obtain ⟨x, _, rfl⟩ := List.mem_map.1 hv
  rfl
/-- a row of words -/
def Ws (H : Heap) (v : Value) (l : List Int) : Prop := IsSl v l.length ∧ Cels H (sb v) (so v) (u64s l)
/-- a cell: parts: 1 the arena, 2 its cells, 3 what was given back, 10 + i the words of the i-th -/
def CR (K : Role) (H : Heap) (x : Value × Bool) (y : Ce × Nat) : Prop := x.2 = y.1.2 ∧ Own 1 H x.1 y.1.1.length (u64s y.1.1) ∧ (0 < sc x.1 → K (sb x.1) = 10 + y.2)
theorem CR.keep {K K' : Role} {S : Nat → Prop} {H H' : Heap} {x : Value × Bool} {y : Ce × Nat} (h : CR K H x y) (k : Keep S H H') (hS : ∀ b, K b = 10 + y.2 → ¬ S b) (hK : ∀ b, K b = 10 + y.2 → K' b = 10 + y.2) : CR K' H' x y :=
  ⟨h.1, h.2.1.keep k (fun e => hS _ (h.2.2 e)), fun e => hK _ (h.2.2 e)⟩
structure Ma (K : Role) (H : Heap) (b : Nat) (vc vb : Value) (cs : List Value) (l : List Ce) (bk : List Nat) : Prop where
  kin : K.In H
  kb : K b = 1
  hb : Blk H b cs
  hC : Rw encC 2 (CR K H) H vc l.zipIdx
  kc : 0 < sc vc → K (sb vc) = 2
  hV : Rw encU 1 Eq H vb bk
  kv : 0 < sc vb → K (sb vb) = 3
section ma
variable {K : Role} {H H' : Heap} {b : Nat} {vc vb : Value} {cs : List Value} {l : List Ce} {bk : List Nat}
theorem crs_keep {S : Nat → Prop} {v : Value} {l : List (Ce × Nat)} (h : Rw encC 2 (CR K H) H' v l) (k : Keep S H H') (hS : ∀ b, 10 ≤ K b → ¬ S b) : Rw encC 2 (CR K H') H' v l :=
  h.mono fun _ y hxy => hxy.keep k (fun b hb => hS b (by omega)) (fun _ h => h)
theorem Ma.keep {S : Nat → Prop} (h : Ma K H b vc vb cs l bk) (k : Keep S H H') (hS : ∀ x, K x ≠ 0 → ¬ S x) : Ma K H' b vc vb cs l bk :=
  ⟨h.kin.mono k.size, h.kb, h.hb.keep k (hS b (by rw [h.kb]; omega)), crs_keep (h.hC.keep k (fun hc => hS _ (by rw [h.kc hc]; omega))) k (fun x hx => hS x (by omega)), h.kc,
    h.hV.keep k (fun hc => hS _ (by rw [h.kv hc]; omega)), h.kv⟩
theorem Ma.keepN (h : Ma K H b vc vb cs l bk) (k : Keep Non H H') : Ma K H' b vc vb cs l bk := h.keep k (fun _ _ h => h)
theorem Ma.role (h : Ma K H b vc vb cs l bk) {K' : Role} (hk : K'.In H) (hs : ∀ x, K x ≠ 0 → K' x = K x) : Ma K' H b vc vb cs l bk := by
  refine ⟨hk, by rw [hs b (by rw [h.kb]; omega)]; exact h.kb, h.hb, h.hC.mono fun x y hxy => hxy.keep (Keep.refl Non H) (fun _ _ h => h) (fun x hx => by rw [hs x (by omega)]; exact hx), fun hc => ?_, h.hV, fun hc => ?_⟩
  · have := h.kc hc; rw [hs _ (by omega)]; exact this
  · have := h.kv hc; rw [hs _ (by omega)]; exact this
/-- the arena's own cells are set -/
theorem Ma.own (h : Ma K H b vc vb cs l bk) {cs' : List Value} (hB : Blk H' b cs') (k : Keep (· = b) H H') : Ma K H' b vc vb cs' l bk := by
  have hne : ∀ x, K x ≠ 1 → ¬ x = b := fun x hx e => hx (by rw [e]; exact h.kb)
  exact ⟨h.kin.mono k.size, h.kb, hB, crs_keep (h.hC.keep k (fun hc => hne _ (by rw [h.kc hc]; omega))) k (fun x hx => hne x (by omega)), h.kc, h.hV.keep k (fun hc => hne _ (by rw [h.kv hc]; omega)), h.kv⟩
/-- one more cell -/
theorem Ma.appC (h : Ma K H b vc vb cs l bk) {v' w : Value} {ws : List Int} {k : Bool} {q : List (Value × Bool)} (hq : Al (CR K H) q l.zipIdx) (hw : CR K H (w, k) ((ws, k), l.length)) (ap : App 2 H H' vc v' l.zipIdx.length (rws encC q) (rws encC [(w, k)]) 1) :
    Ma (K.set (sb v') 2) H' b v' vb cs (l ++ [(ws, k)]) bk ∧ AppRole K (K.set (sb v') 2) H H' vc v' 2 := by
  have ar := app_role (K := K) (r := 2) ap (by omega) h.kin h.kc
  have hb := ar.same b (by rw [h.kb]; omega)
  refine ⟨⟨ar.kin, by rw [hb]; exact h.kb, h.hb.keep ar.keep (ar.role b (by rw [h.kb]; omega) (by rw [h.kb]; omega)), ?_, fun _ => ar.at_,
    h.hV.keep ar.keep (fun hc => ar.role _ (by rw [h.kv hc]; omega) (by rw [h.kv hc]; omega)), fun hc => ?_⟩, ar⟩
  · have e : (l ++ [(ws, k)]).zipIdx = l.zipIdx ++ [((ws, k), l.length)] := by rw [List.zipIdx_append]; simp
    rw [e]
    exact Rw.app hq rfl (Al.one hw) (fun x y hxy => hxy.keep ar.keep (fun x hx => ar.role x (by omega) (by omega)) (fun x hx => by rw [ar.same x (by omega)]; exact hx)) ap
  · have := h.kv hc; rw [ar.same _ (by omega)]; exact this
/-- one more given back -/
theorem Ma.appV (h : Ma K H b vc vb cs l bk) {v' : Value} {g : Nat} {q : List Nat} (hq : Al Eq q bk) (ap : App 1 H H' vb v' bk.length (rws encU q) (rws encU [g]) 1) :
    Ma (K.set (sb v') 3) H' b vc v' cs l (bk ++ [g]) ∧ AppRole K (K.set (sb v') 3) H H' vb v' 3 := by
  have ar := app_role (K := K) (r := 3) ap (by omega) h.kin h.kv
  have hb := ar.same b (by rw [h.kb]; omega)
  refine ⟨⟨ar.kin, by rw [hb]; exact h.kb, h.hb.keep ar.keep (ar.role b (by rw [h.kb]; omega) (by rw [h.kb]; omega)), ?_, fun hc => ?_, Rw.app hq rfl (Al.one rfl) (fun _ _ h => h) ap, fun _ => ar.at_⟩, ar⟩
  · exact (h.hC.keep ar.keep (fun hc => ar.role _ (by rw [h.kc hc]; omega) (by rw [h.kc hc]; omega))).mono fun x y hxy => hxy.keep ar.keep (fun x hx => ar.role x (by omega) (by omega)) (fun x hx => by rw [ar.same x (by omega)]; exact hx)
  · have := h.kc hc; rw [ar.same _ (by omega)]; exact this
theorem zip_set {α : Type} (l : List α) (j : Nat) (x : α) : (l.set j x).zipIdx = l.zipIdx.set j (x, j) := by
  apply List.ext_getElem?
  intro i
  rw [List.getElem?_zipIdx]
  by_cases e : j = i
  · subst e
    by_cases hj : j < l.length
    · rw [List.getElem?_set_self hj, List.getElem?_set_self (by simpa using hj)]
      simp
    · rw [List.getElem?_eq_none (by simpa using Nat.le_of_not_lt hj), List.getElem?_eq_none (by simpa using Nat.le_of_not_lt hj)]
      rfl
  · rw [List.getElem?_set_ne e, List.getElem?_set_ne e, List.getElem?_zipIdx]
theorem zip_get {α : Type} {l : List α} {j : Nat} {x : α} (h : l[j]? = some x) : l.zipIdx[j]? = some (x, j) := by
  rw [List.getElem?_zipIdx, h]
  simp
/-- a cell is stored -/
theorem Ma.putC (h : Ma K H b vc vb cs l bk) {j : Nat} (hj : j < l.length) : ∃ r, Blk H (sb vc) r ∧ so vc + j * 2 + 2 ≤ r.length ∧ ∀ H' w ws k, CR K H (w, k) ((ws, k), j) → Blk H' (sb vc) (putL r (so vc + j * 2) [w, .bool k]) → Keep (· = sb vc) H H' →
    Ma K H' b vc vb cs (l.set j (ws, k)) bk := by
  obtain ⟨r, hB, hr, hput⟩ := h.hC.put encC_len (by omega) (j := j) (by simpa using hj)
  have hpos : 0 < sc vc := pos_of' h.hC (by intro e; have := congrArg List.length e; simp at this; subst this; simp at hj)
  have hne : ∀ x, K x ≠ 2 → ¬ x = sb vc := fun x hx e => hx (by rw [e]; exact h.kc hpos)
  refine ⟨r, hB, hr, fun H' w ws k hw hB' hk => ⟨h.kin.mono hk.size, h.kb, h.hb.keep hk (hne b (by rw [h.kb]; omega)), ?_, h.kc, h.hV.keep hk (fun hc => hne _ (by rw [h.kv hc]; omega)), h.kv⟩⟩
  rw [zip_set]
  exact crs_keep (hput H' (w, k) ((ws, k), j) hw hB') hk (fun x hx => hne x (by omega))
/-- a cell is read -/
theorem Ma.at_ (h : Ma K H b vc vb cs l bk) {j : Nat} {y : Ce} (hy : l[j]? = some y) : ∃ w, Own 1 H w y.1.length (u64s y.1) ∧ (0 < sc w → K (sb w) = 10 + j) ∧ cel H (sb vc) (so vc + j * 2) = some w ∧ cel H (sb vc) (so vc + j * 2 + 1) = some (.bool y.2) := by
  obtain ⟨x, ⟨h1, h2, h3⟩, hc⟩ := h.hC.rd.cel encC_len (zip_get hy)
  have hc0 := hc 0 (by omega)
  have hc1 := hc 1 (by omega)
  exact ⟨x.1, h2, h3, hc0, by rw [hc1]; show some (Value.bool x.2) = _; rw [h1]⟩
/-- a word is stored -/
theorem Ma.putW (h : Ma K H b vc vb cs l bk) {j i : Nat} {y : Ce} (hy : l[j]? = some y) (hi : i < y.1.length) : ∃ w r, cel H (sb vc) (so vc + j * 2) = some w ∧ IsSl w y.1.length ∧ K (sb w) = 10 + j ∧ Blk H (sb w) r ∧ so w + i < r.length ∧
    ∀ H' x, Blk H' (sb w) (r.set (so w + i) (.int .u64 x)) → Keep (· = sb w) H H' → Ma K H' b vc vb cs (l.set j (y.1.set i x, y.2)) bk := by
  obtain ⟨q, hq1, hq2⟩ := h.hC.row
  have hz := zip_get hy
  obtain ⟨x0, hx0, ⟨h1, h2, h3⟩⟩ := hq1.get hz
  have hlt := (List.getElem?_eq_some_iff.1 hx0).1
  have hc := h.hC.rd
  obtain ⟨r, hB, hr, hst⟩ := h2.store i (by rw [u64s_length]; exact hi)
  have hpos : 0 < sc x0.1 := by have := h2.sl.cap.1; simp only at this; omega
  have kw := h3 hpos
  simp only at kw
  have hcel : cel H (sb vc) (so vc + j * 2) = some x0.1 := by
    have h5 := hq2.cels (j * 2) (by rw [rws_length encC_len]; omega)
    rw [h5, ← List.getElem?_eq_getElem]
    have := rws_get encC_len hx0 0 (by omega)
    rw [Nat.add_zero] at this
    rw [this]
    rfl
  refine ⟨x0.1, r, hcel, h2.sl, kw, hB, hr, fun H' x hB' hk => ?_⟩
  have hne : ∀ z, K z ≠ 10 + j → ¬ z = sb x0.1 := fun z hz e => hz (by rw [e]; exact kw)
  refine ⟨h.kin.mono hk.size, h.kb, h.hb.keep hk (hne b (by rw [h.kb]; omega)), ?_, h.kc, h.hV.keep hk (fun hc => hne _ (by rw [h.kv hc]; omega)), h.kv⟩
  rw [zip_set]
  refine ⟨q, ?_, ?_⟩
  · refine ⟨by rw [List.length_set]; exact hq1.len, fun m z p hz' hp => ?_⟩
    by_cases e : j = m
    · subst e
      rw [List.getElem?_set_self (by have := hq1.len; omega)] at hp
      rw [hx0] at hz'
      cases hz'
      cases hp
      refine ⟨h1, ?_, h3⟩
      have := hst H' (.int .u64 x) hB'
      have e2 : u64s (y.1.set i x) = (u64s y.1).set i (.int .u64 x) := by unfold u64s; rw [List.map_set]
      rw [e2, List.length_set]
      exact this
    · rw [List.getElem?_set_ne e] at hp
      have hr' := hq1.at_ m z p hz' hp
      have hpi : p.2 = m := by
        rw [List.getElem?_zipIdx] at hp
        cases hl : l[m]? with
        | none => rw [hl] at hp; cases hp
        | some c => rw [hl] at hp; simp at hp; rw [← hp]
      exact hr'.keep hk (fun z hz => hne z (by rw [hz, hpi]; omega)) (fun _ h => h)
  · rw [List.length_set]
    exact hq2.keep hk (fun hc => hne _ (by rw [h.kc hc]; omega))
end ma
end Go.Proofs.Ytioaicleodjmpaa.X
