/- Maps from bytes to pointers: what an operation on one makes; a walk over one. -/
import Derived.Test.YtaloblomncjgkaaXlib
import Derived.MapKept
import Derived.Maps.RangeRun
namespace Go.Proofs.Ytaloblomncjgkaa.X
open Go Go.MapKept
set_option linter.unusedVariables false
set_option linter.unusedSimpArgs false

/-! ### maps from bytes to pointers -/
/-- the value of a byte -/
abbrev kb (b : UInt8) : Value := .int .u8 (b.toNat : Int)
theorem kb_inj {a b : UInt8} (h : kb a = kb b) : a = b := by
  injection h with _ h
  exact UInt8.toNat_inj.1 (by omega)
def setF {α : Type} (f : UInt8 → α) (b : UInt8) (x : α) : UInt8 → α := fun c => if c = b then x else f c
theorem setF_at {α : Type} (f : UInt8 → α) (b : UInt8) (x : α) : setF f b x b = x := by simp [setF]
theorem setF_ne {α : Type} (f : UInt8 → α) {b c : UInt8} (x : α) (h : c ≠ b) : setF f b x c = f c := by simp [setF, h]
/-- entries that say a function -/
structure KdE (es : Array MapEntry) (c : Nat) (f : UInt8 → Option Nat) : Prop where
  stamped : Stamped es c
  fwd : ∀ e ∈ es.toList, ∃ b k, e.key = kb b ∧ e.val = ptr k 0 ∧ f b = some k
  bwd : ∀ b k, f b = some k → ∃ e ∈ es.toList, e.key = kb b ∧ e.val = ptr k 0
def Kd (H : Heap) (m : Nat) (f : UInt8 → Option Nat) : Prop := ∃ es c, H[m]? = some (.map es c) ∧ KdE es c f
theorem KdE.keys {es : Array MapEntry} {c : Nat} {f : UInt8 → Option Nat} (h : KdE es c f) : ∀ x ∈ es.toList, IsKey (.int .u8) x.key := fun x hx => by
  obtain ⟨b, k, h1, _⟩ := h.fwd x hx
  rw [h1]
  rfl
theorem Kd.keep {S : Nat → Prop} {H H' : Heap} {m : Nat} {f : UInt8 → Option Nat} (h : Kd H m f) (k : Keep S H H') (hn : ¬ S m) : Kd H' m f := let ⟨es, c, h1, h2⟩ := h; ⟨es, c, k.get h1 hn, h2⟩
theorem Kd.lt {H : Heap} {m : Nat} {f : UInt8 → Option Nat} (h : Kd H m f) : m < H.size := let ⟨_, _, h1, _⟩ := h; lt_of_blk h1
/-- all bytes -/
def allB : List UInt8 := (List.range 256).map UInt8.ofNat
theorem mem_allB (b : UInt8) : b ∈ allB := List.mem_map.2 ⟨b.toNat, by have := b.toNat_lt; simpa using this, by simp⟩
theorem nodup_allB : allB.Nodup := by
  unfold allB
  rw [List.Nodup, List.pairwise_map]
  refine List.Pairwise.imp_of_mem ?_ (List.pairwise_lt_range (n := 256))
  intro i j hi hj hlt e
  have := congrArg UInt8.toNat e
  simp at this hi hj
  omega
theorem allB_get {i : Nat} (h : i < 256) : allB[i]? = some (UInt8.ofNat i) := by
  unfold allB
  rw [List.getElem?_map, List.getElem?_range h]
  rfl
def sumB (g : UInt8 → Nat) : Nat := (allB.map g).sum
theorem sum_upd : ∀ (l : List UInt8) (hn : l.Nodup) (b : UInt8) (hb : b ∈ l) (g g' : UInt8 → Nat) (h : ∀ c, c ≠ b → g' c = g c), (l.map g').sum + g b = (l.map g).sum + g' b := by
  intro l
  induction l with
  | nil => intro _ b hb; cases hb
  | cons x l ih =>
    intro hn b hb g g' h
    simp only [List.map_cons, List.sum_cons]
    have hn' := List.nodup_cons.1 hn
    rcases List.mem_cons.1 hb with e | e
    · subst e
      have : l.map g' = l.map g := List.map_congr_left fun c hc => h c (fun e => hn'.1 (e ▸ hc))
      rw [this]
      omega
    · have := ih hn'.2 b e g g' h
      rw [h x (fun e' => hn'.1 (e' ▸ e))]
      omega
theorem sumB_upd (b : UInt8) {g g' : UInt8 → Nat} (h : ∀ c, c ≠ b → g' c = g c) : sumB g' + g b = sumB g + g' b := sum_upd allB nodup_allB b (mem_allB b) g g' h
theorem sumB_congr {g g' : UInt8 → Nat} (h : ∀ c, g' c = g c) : sumB g' = sumB g := by
  have : g' = g := funext h
  rw [this]
theorem sumB_zero : sumB (fun _ => 0) = 0 := by
  unfold sumB
  generalize allB = l
  induction l with
  | nil => rfl
  | cons x l ih =>
    show 0 + (l.map fun _ => 0).sum = 0
    rw [ih]
theorem sumB_le {g g' : UInt8 → Nat} (h : ∀ c, g c ≤ g' c) : sumB g ≤ sumB g' := by
  unfold sumB
  generalize allB = l
  induction l with
  | nil => simp
  | cons x l ih => simp only [List.map_cons, List.sum_cons]; have := h x; omega
theorem le_sumB (g : UInt8 → Nat) (b : UInt8) : g b ≤ sumB g := by
  have h1 := sumB_upd b (g := g) (g' := setF g b 0) (fun c hc => setF_ne g 0 hc)
  rw [setF_at] at h1
  omega
/-- how many bytes have one -/
def numF (f : UInt8 → Option Nat) : Nat := sumB fun b => if (f b).isSome then 1 else 0
theorem map_len : ∀ (l : List MapEntry) (f : UInt8 → Option Nat), (l.map (·.key)).Nodup → (∀ e ∈ l, ∃ b k, e.key = kb b ∧ e.val = ptr k 0 ∧ f b = some k) → (∀ b k, f b = some k → ∃ e ∈ l, e.key = kb b ∧ e.val = ptr k 0) → l.length = numF f := by
  intro l
  induction l with
  | nil =>
    intro f _ _ hb
    have : (fun b => if (f b).isSome then 1 else 0) = fun _ : UInt8 => 0 := by
      funext b
      cases h : f b with
      | none => rfl
      | some k => obtain ⟨e, he, _⟩ := hb b k h; cases he
    unfold numF
    rw [this, sumB_zero]
    rfl
  | cons e l ih =>
    intro f hn hf hb
    obtain ⟨b, k, h1, h2, h3⟩ := hf e (by simp)
    simp only [List.map_cons] at hn
    have hn' := List.nodup_cons.1 hn
    have hne : ∀ e' ∈ l, e'.key ≠ kb b := fun e' he' heq => hn'.1 (by rw [h1, ← heq]; exact List.mem_map_of_mem he')
    have := ih (setF f b none) hn'.2 (fun e' he' => by
      obtain ⟨b', k', g1, g2, g3⟩ := hf e' (by simp [he'])
      refine ⟨b', k', g1, g2, ?_⟩
      rw [setF_ne]
      · exact g3
      · rintro rfl
        exact hne e' he' g1) (fun b' k' h => by
      have hbb : b' ≠ b := by rintro rfl; rw [setF_at] at h; cases h
      rw [setF_ne _ _ hbb] at h
      obtain ⟨e', he', g1, g2⟩ := hb b' k' h
      rcases List.mem_cons.1 he' with rfl | he'
      · rw [h1] at g1; exact absurd (kb_inj g1).symm hbb
      · exact ⟨e', he', g1, g2⟩)
    rw [List.length_cons, this]
    have h4 := sumB_upd b (g := fun c => if (setF f b none c).isSome then 1 else 0) (g' := fun c => if (f c).isSome then 1 else 0) (fun c hc => by rw [setF_ne _ _ hc])
    simp only [setF_at, h3] at h4
    unfold numF
    simp at h4
    omega

/-- a walk over a map: S: whose turn is over -/
def It (H : Heap) (r m : Nat) (f : UInt8 → Option Nat) (S : UInt8 → Bool) : Prop :=
  ∃ (es : Array MapEntry) (c : Nat) (seen : Array Nat), H[m]? = some (.map es c) ∧ KdE es c f ∧ H[r]? = some (.mapIter (some m) c seen c) ∧ ∀ e ∈ es.toList, ∀ b, e.key = kb b → seen.contains e.born = S b
/-- .. and b is at turn, which has k -/
def ItAt (H : Heap) (r m : Nat) (f : UInt8 → Option Nat) (S : UInt8 → Bool) (b : UInt8) (k : Nat) : Prop :=
  ∃ (es : Array MapEntry) (c : Nat) (seen : Array Nat) (e : MapEntry), H[m]? = some (.map es c) ∧ KdE es c f ∧ H[r]? = some (.mapIter (some m) c (seen.push e.born) c) ∧ e ∈ es.toList ∧ e.key = kb b ∧ e.val = ptr k 0 ∧ ∀ e ∈ es.toList, ∀ b', e.key = kb b' → seen.contains e.born = S b'
theorem It.keep {S' : Nat → Prop} {H H' : Heap} {r m : Nat} {f : UInt8 → Option Nat} {S : UInt8 → Bool} (h : It H r m f S) (k : Keep S' H H') (hm : ¬ S' m) (hr : ¬ S' r) : It H' r m f S :=
  let ⟨es, c, seen, h1, h2, h3, h4⟩ := h; ⟨es, c, seen, k.get h1 hm, h2, k.get h3 hr, h4⟩
theorem ItAt.it {H : Heap} {r m : Nat} {f : UInt8 → Option Nat} {S : UInt8 → Bool} {b : UInt8} {k : Nat} (h : ItAt H r m f S b k) : It H r m f (setF S b true) := by
  obtain ⟨es, c, seen, e, h1, h2, h3, h4, h5, h6, h7⟩ := h
  refine ⟨es, c, seen.push e.born, h1, h2, h3, fun e' he' b' hb' => ?_⟩
  rw [contains_push, h7 e' he' b' hb']
  by_cases hbb : b' = b
  · subst hbb
    have hn : (es.toList.map (·.key)).Nodup := h2.stamped.2.2
    have hee : e' = e := by
      have hp : es.toList.Pairwise (fun x y => x.key ≠ y.key) := by have := (stamped_iff es c).1 h2.stamped; exact this.2.2
      by_cases heq : e' = e
      · exact heq
      · exfalso
        obtain ⟨i, hi⟩ := List.getElem?_of_mem he'
        obtain ⟨j, hj⟩ := List.getElem?_of_mem h4
        have hli := (List.getElem?_eq_some_iff.1 hi)
        have hlj := (List.getElem?_eq_some_iff.1 hj)
        rcases Nat.lt_trichotomy i j with h | h | h
        · have := List.pairwise_iff_getElem.1 hp i j hli.1 hlj.1 h
          rw [hli.2, hlj.2] at this
          exact this (hb'.trans h5.symm)
        · subst h; rw [hi] at hj; cases hj; exact heq rfl
        · have := List.pairwise_iff_getElem.1 hp j i hlj.1 hli.1 h
          rw [hli.2, hlj.2] at this
          exact this (h5.trans hb'.symm)
    rw [hee, setF_at]
    simp
  · rw [setF_ne _ _ hbb]
    have : e'.born ≠ e.born := fun heq => by
      have := born_inj h2.stamped.2.1 he' h4 heq
      rw [this, h5] at hb'
      exact hbb (kb_inj hb').symm
    simp [this]

section ops
variable {P : Program} {n : Nat} {B : Exit → Act → World → Prop} {w0 : World} {md : Md} {ops : List Oper} {rest : OT} {k : K} {σ : Sl} {H : Heap} {i : Nat}
variable {d : Nat} {ty : TypeId} {pos : String} {after : Array Edge} {g : Option (Nat × Bool)}

def mnil : Value → Bool
  | .map none => true
  | _ => false
theorem run_equalIn_map {P : Program} {w : World} {t kt et : Nat} (m : Nat) {a : Option Nat} (hT : Ty P t (.map kt et)) : (Op.equalIn (m + 1) t (.map a) (.map none)).run P w = .ok (mnil (.map a)) w := by
  cases a <;> simp [Op.equalIn, run_und hT, mnil]
theorem run_equal_mapn {P : Program} {w : World} {t kt et : Nat} {a : Option Nat} (hT : Ty P t (.map kt et)) : (Op.equal t (.map a) (.map none)).run P w = .ok (mnil (.map a)) w := run_equalIn_map 9999 hT
theorem x_meqn {t t' kt et : Nat} {x y : Operand} {a : Option Nat} [hT : Ty P t (.map kt et)] (hg : gd ops σ g = some true) (hx : evo σ x = some (.map a)) (hy : evo σ y = some (.map none)) (hd : Nat.blt d n = true) (hk : okq ops md i ⟨some d, .binOp .eql t x y t', ty, pos, after, g⟩ H)
    (h : XW P n B w0 md ops rest k ((d, .bool (mnil (.map a))) :: σ) H) : XW P n B w0 md ops (.op i ⟨some d, .binOp .eql t x y t', ty, pos, after, g⟩ rest) k σ H :=
  x_pure hk hg rfl hd (fun A w hM ha => by
    simp [execOp, ha.evo hx, ha.evo hy, eqGuard, binOp, run_equal_mapn hT]) h

theorem sem_new_map {P : Program} {w0 w : World} {H : Heap} (hw : Wd w0 H w) (o : Obj) : ∃ w', (newObj o).run P w = .ok H.size w' ∧ Wd w0 w'.heap w' ∧ w'.heap = H.push o :=
  ⟨{ w with heap := w.heap.push o }, by rw [run_newObj, hw.heap], ⟨rfl, hw.os, hw.tape, hw.output⟩, by show w.heap.push o = _; rw [hw.heap]⟩

theorem x_makeMap {dst : Option Nat} {t : Nat} (hg : gd ops σ g = some true) (hd : dstOk dst n = true) (he : okE ops md i ⟨dst, .makeMap t none, ty, pos, after, g⟩)
    (h : ∀ H', Kd H' H.size (fun _ => none) → Keep Non H H' → H'.size = H.size + 1 → okm ops md i H H' ∧ XW P n B w0 md ops rest k (putS dst (.map (some H.size)) σ) H') : XW P n B w0 md ops (.op i ⟨dst, .makeMap t none, ty, pos, after, g⟩ rest) k σ H := by
  refine x_eff (E := fun v H' => v = .map (some H.size) ∧ H' = H.push (.map #[] 0)) he hg hd (fun a w ha hw N Q hN => ?_) (fun v H' ⟨e1, e2⟩ => by
    subst e1 e2
    exact h _ ⟨#[], 0, by simp, stamped_empty 0, by simp, by simp⟩ (keep_push _ _) (by simp))
  obtain ⟨w', h1, h2, h3⟩ := sem_new_map (P := P) hw (.map #[] 0)
  have e1 : (execOp a.eval ⟨dst, .makeMap t none, ty, pos, after, g⟩).run P w = .ok (.value (.map (some H.size))) w' := by
    simp only [execOp, Option.map_none, Instr.makeMap, Sem.run_bind, Sem.run_map, h1, Result.andThen_ok, Sem.run_pure]
  rw [e1, Oper.upon_value]
  exact hN _ w' h2 ⟨rfl, h3⟩

theorem run_lookup_kd {P : Program} {w : World} {t kt et s bb m c : Nat} {z : Value} {es : Array MapEntry} {f : UInt8 → Option Nat} (hT : Ty P t (.map kt et)) (hK : Ty P kt (.int .u8)) (hI : Inf P et 1 bb (.pointer none)) (hm : w.heap[m]? = some (.map es c)) (hE : KdE es c f) (b : UInt8) :
    (Instr.lookup t (.map (some m)) (kb b) false).run P w = .ok (match f b with | some k => ptr k 0 | none => .pointer none) w := by
  have hk : IsKey (.int .u8) (kb b) := rfl
  have hz : (zeroValue et).run P w = .ok (.pointer none) w := run_zero hI
  rcases findNow_spec hk es.toList 0 hE.keys with ⟨h1, h2⟩ | ⟨j, e, h1, h2, h3⟩
  · have hf : f b = none := by
      cases h : f b with
      | none => rfl
      | some k => obtain ⟨e, he, g1, _⟩ := hE.bwd b k h; exact absurd g1 (h2 e he)
    rw [hf]
    simp [Instr.lookup, run_und hT, MapKept.run_getObj_map hm, MapKept.run_checkKey hK.und hk, MapKept.run_findKey hK.und h1, hz]
  · obtain ⟨b', k, g1, g2, g3⟩ := hE.fwd e (List.mem_of_getElem? h2)
    have : b' = b := kb_inj (g1.symm.trans h3)
    subst this
    simp only [g3]
    rw [← g2]
    simp [Instr.lookup, run_und hT, MapKept.run_getObj_map hm, MapKept.run_checkKey hK.und hk, MapKept.run_findKey hK.und h1]

/-- what a byte has -/
theorem x_lookup {t kt et bb m : Nat} {x y : Operand} {f : UInt8 → Option Nat} {b : UInt8} [hT : Ty P t (.map kt et)] [hK : Ty P kt (.int .u8)] [hI : Inf P et 1 bb (.pointer none)] (hg : gd ops σ g = some true) (hx : evo σ x = some (.map (some m))) (hy : evo σ y = some (kb b)) (hM : ∀ H', hpm md i H H' → Kd H' m f) (hd : Nat.blt d n = true)
    (hk : okq ops md i ⟨some d, .lookup t x y false, ty, pos, after, g⟩ H) (h : XW P n B w0 md ops rest k ((d, match f b with | some k => ptr k 0 | none => .pointer none) :: σ) H) : XW P n B w0 md ops (.op i ⟨some d, .lookup t x y false, ty, pos, after, g⟩ rest) k σ H :=
  x_pure hk hg rfl hd (fun A w hH ha => by
    obtain ⟨es, c, h1, h2⟩ := hM _ hH
    have := run_lookup_kd (s := 1) (z := .pointer none) hT hK hI h1 h2 b
    simp [execOp, ha.evo hx, ha.evo hy, this]) h

theorem setIf_modify {H : Heap} {m : Nat} {o : Obj} : H.setIfInBounds m o = H.modify m (fun _ => o) := by
  apply Array.ext_getElem?
  intro i
  rw [Array.getElem?_setIfInBounds, Array.getElem?_modify]
  split
  · rename_i h
    subst h
    split
    · rename_i h; rw [Array.getElem?_eq_getElem h]; rfl
    · rename_i h; rw [Array.getElem?_eq_none (by omega)]; rfl
  · rfl
theorem run_mapUpdate_kd {P : Program} {w : World} {t kt et m c : Nat} {es : Array MapEntry} {f : UInt8 → Option Nat} (hT : Ty P t (.map kt et)) (hK : Ty P kt (.int .u8)) (hm : w.heap[m]? = some (.map es c)) (hE : KdE es c f) (b : UInt8) (k : Nat) :
    ∃ es' c', (Instr.mapUpdate t (.map (some m)) (kb b) (ptr k 0)).run P w = .ok () { w with heap := w.heap.setIfInBounds m (.map es' c') } ∧ KdE es' c' (setF f b (some k)) := by
  have hk : IsKey (.int .u8) (kb b) := rfl
  rcases findNow_spec hk es.toList 0 hE.keys with ⟨h1, h2⟩ | ⟨j, e, h1, h2, h3⟩
  · refine ⟨es.push { key := kb b, val := ptr k 0, born := c }, c + 1, ?_, stamped_push hE.stamped h2, fun e he => ?_, fun b' k' h => ?_⟩
    · simp [Instr.mapUpdate, run_und hT, MapKept.run_getObj_map hm, MapKept.run_checkKey hK.und hk, MapKept.run_findKey hK.und h1, MapKept.run_setObj_map _ hm]
    · simp only [Array.toList_push, List.mem_append, List.mem_singleton] at he
      rcases he with he | rfl
      · obtain ⟨b', k', g1, g2, g3⟩ := hE.fwd e he
        refine ⟨b', k', g1, g2, ?_⟩
        rw [setF_ne]
        · exact g3
        · rintro rfl
          exact h2 e he g1
      · exact ⟨b, k, rfl, rfl, setF_at _ _ _⟩
    · by_cases hb : b' = b
      · subst hb
        rw [setF_at] at h
        cases h
        exact ⟨{ key := kb b', val := ptr k 0, born := c }, by simp, rfl, rfl⟩
      · rw [setF_ne _ _ hb] at h
        obtain ⟨e, he, g1, g2⟩ := hE.bwd b' k' h
        exact ⟨e, by simp [Array.mem_toList_iff.1 he], g1, g2⟩
  · have hj : es[j]? = some e := by simpa using h2
    have hkey : ∀ e', es[j]? = some e' → ({ e' with key := kb b, val := ptr k 0 } : MapEntry).key = e'.key := fun e' he' => by rw [hj] at he'; cases he'; exact h3.symm
    have hget : ∀ i', (es.modify j fun e => { e with key := kb b, val := ptr k 0 })[i']? = if j = i' then (es[i']?).map (fun e => { e with key := kb b, val := ptr k 0 }) else es[i']? := fun i' => by rw [Array.getElem?_modify]
    have hp : es.toList.Pairwise (fun x y => x.key ≠ y.key) := ((stamped_iff es c).1 hE.stamped).2.2
    refine ⟨es.modify j fun e => { e with key := kb b, val := ptr k 0 }, c, ?_, stamped_modify hE.stamped _ _ (fun _ _ => rfl) (fun e' _ he' => hkey e' he'), fun x hx => ?_, fun b' k' h => ?_⟩
    · simp [Instr.mapUpdate, run_und hT, MapKept.run_getObj_map hm, MapKept.run_checkKey hK.und hk, MapKept.run_findKey hK.und h1, hj, h3, MapKept.run_keyThatStays hk, MapKept.run_setObj_map _ hm]
    · obtain ⟨i', hi'⟩ := List.getElem?_of_mem hx
      rw [Array.getElem?_toList, hget] at hi'
      by_cases hji : j = i'
      · subst hji
        rw [if_pos rfl, hj] at hi'
        cases hi'
        exact ⟨b, k, rfl, rfl, setF_at _ _ _⟩
      · rw [if_neg hji] at hi'
        have hmem : x ∈ es.toList := List.mem_of_getElem? (by rw [Array.getElem?_toList]; exact hi')
        obtain ⟨b', k', g1, g2, g3⟩ := hE.fwd x hmem
        refine ⟨b', k', g1, g2, ?_⟩
        rw [setF_ne]
        · exact g3
        · rintro rfl
          have hxe : x.key = e.key := g1.trans h3.symm
          have li : es.toList[i']? = some x := by rw [Array.getElem?_toList]; exact hi'
          have lj : es.toList[j]? = some e := h2
          have a1 := List.getElem?_eq_some_iff.1 li
          have a2 := List.getElem?_eq_some_iff.1 lj
          rcases Nat.lt_or_gt_of_ne hji with h | h
          · have := List.pairwise_iff_getElem.1 hp j i' a2.1 a1.1 h
            rw [a1.2, a2.2] at this
            exact this hxe.symm
          · have := List.pairwise_iff_getElem.1 hp i' j a1.1 a2.1 h
            rw [a1.2, a2.2] at this
            exact this hxe
    · by_cases hb : b' = b
      · subst hb
        rw [setF_at] at h
        cases h
        refine ⟨{ e with key := kb b', val := ptr k 0 }, ?_, rfl, rfl⟩
        apply List.mem_of_getElem? (i := j)
        rw [Array.getElem?_toList, hget, if_pos rfl, hj]
        rfl
      · rw [setF_ne _ _ hb] at h
        obtain ⟨e', he', g1, g2⟩ := hE.bwd b' k' h
        obtain ⟨i', hi'⟩ := List.getElem?_of_mem he'
        refine ⟨e', ?_, g1, g2⟩
        apply List.mem_of_getElem? (i := i')
        rw [Array.getElem?_toList] at hi' ⊢
        rw [hget, if_neg ?_]
        · exact hi'
        · rintro rfl
          rw [hj] at hi'
          cases hi'
          exact hb (kb_inj (g1.symm.trans h3))
theorem x_mapUpdate {t kt et m kk : Nat} {x y z : Operand} {f : UInt8 → Option Nat} {b : UInt8} [hT : Ty P t (.map kt et)] [hK : Ty P kt (.int .u8)] (hg : gd ops σ g = some true) (hx : evo σ x = some (.map (some m))) (hy : evo σ y = some (kb b)) (hz : evo σ z = some (ptr kk 0)) (hM : Kd H m f) (he : okE ops md i ⟨none, .mapUpdate t x y z, ty, pos, after, g⟩)
    (h : ∀ H', Kd H' m (setF f b (some kk)) → Keep (· = m) H H' → H'.size = H.size → okm ops md i H H' ∧ XW P n B w0 md ops rest k σ H') : XW P n B w0 md ops (.op i ⟨none, .mapUpdate t x y z, ty, pos, after, g⟩ rest) k σ H := by
  obtain ⟨es, c, h1, h2⟩ := hM
  refine x_eff (E := fun _ H' => Kd H' m (setF f b (some kk)) ∧ Keep (· = m) H H' ∧ H'.size = H.size) he hg rfl (fun a w ha hw N Q hN => ?_) (fun _ H' ⟨a1, a2, a3⟩ => h H' a1 a2 a3)
  have h1' : w.heap[m]? = some (.map es c) := by rw [hw.heap]; exact h1
  obtain ⟨es', c', hr, hE⟩ := run_mapUpdate_kd (P := P) (t := t) hT hK h1' h2 b kk
  have e1 : (execOp a.eval ⟨none, .mapUpdate t x y z, ty, pos, after, g⟩).run P w = .ok .skip { w with heap := w.heap.setIfInBounds m (.map es' c') } := by
    simp only [execOp, ha.evo hx, ha.evo hy, ha.evo hz, Sem.run_bind, Sem.run_map, hr, Result.andThen_ok, Sem.run_pure]
  rw [e1, Oper.upon_skip]
  refine hN undef _ ⟨rfl, hw.os, hw.tape, hw.output⟩ ⟨⟨es', c', ?_, hE⟩, ?_, ?_⟩
  · exact (heap_set h1').1
  · rw [← hw.heap]
    show Keep (· = m) w.heap (w.heap.setIfInBounds m _)
    rw [setIf_modify]
    exact keep_modify _ _ _
  · show (w.heap.setIfInBounds m _).size = _
    rw [Array.size_setIfInBounds, hw.heap]

theorem run_delete_kd {P : Program} {w : World} {t kt et t2 m c : Nat} {es : Array MapEntry} {f : UInt8 → Option Nat} (hT : Ty P t (.map kt et)) (hK : Ty P kt (.int .u8)) (hm : w.heap[m]? = some (.map es c)) (hE : KdE es c f) (b : UInt8) :
    ∃ es' c', (Builtin.delete_ #[t, t2] ty #[.map (some m), kb b]).run P w = .ok (.tuple #[]) { w with heap := w.heap.setIfInBounds m (.map es' c') } ∧ KdE es' c' (setF f b none) := by
  have hk : IsKey (.int .u8) (kb b) := rfl
  have hp : es.toList.Pairwise (fun x y => x.key ≠ y.key) := ((stamped_iff es c).1 hE.stamped).2.2
  rcases findNow_spec hk es.toList 0 hE.keys with ⟨h1, h2⟩ | ⟨j, e, h1, h2, h3⟩
  · have hf : setF f b none = f := by
      funext b'
      by_cases hb : b' = b
      · subst hb
        rw [setF_at]
        cases h : f b' with
        | none => rfl
        | some k => obtain ⟨e, he, g1, _⟩ := hE.bwd b' k h; exact absurd g1 (h2 e he)
      · rw [setF_ne _ _ hb]
    refine ⟨es, c, ?_, by rw [hf]; exact hE⟩
    simp [Builtin.delete_, run_und hT, MapKept.run_getObj_map hm, MapKept.run_checkKey hK.und hk, MapKept.run_findKey hK.und h1, MapKept.run_setObj_map _ hm]
  · have hj : es[j]? = some e := by simpa using h2
    have hjl : j < es.size := (Array.getElem?_eq_some_iff.1 hj).1
    have hl : (es.eraseIdxIfInBounds j).toList = es.toList.eraseIdx j := by
      unfold Array.eraseIdxIfInBounds
      rw [dif_pos hjl, Array.toList_eraseIdx]
    have hmem : ∀ x, x ∈ es.toList.eraseIdx j ↔ ∃ i', i' ≠ j ∧ es.toList[i']? = some x := fun x => by
      rw [List.mem_eraseIdx_iff_getElem?]
    refine ⟨es.eraseIdxIfInBounds j, c, ?_, stamped_erase hE.stamped j, fun x hx => ?_, fun b' k' h => ?_⟩
    · simp [Builtin.delete_, run_und hT, MapKept.run_getObj_map hm, MapKept.run_checkKey hK.und hk, MapKept.run_findKey hK.und h1, MapKept.run_setObj_map _ hm]
    · rw [hl] at hx
      obtain ⟨i', hi, hx'⟩ := (hmem x).1 hx
      obtain ⟨b', k', g1, g2, g3⟩ := hE.fwd x (List.mem_of_getElem? hx')
      refine ⟨b', k', g1, g2, ?_⟩
      rw [setF_ne]
      · exact g3
      · rintro rfl
        have a1 := List.getElem?_eq_some_iff.1 hx'
        have a2 := List.getElem?_eq_some_iff.1 h2
        rcases Nat.lt_or_gt_of_ne hi with h | h
        · have := List.pairwise_iff_getElem.1 hp i' j a1.1 a2.1 h
          rw [a1.2, a2.2] at this
          exact this (g1.trans h3.symm)
        · have := List.pairwise_iff_getElem.1 hp j i' a2.1 a1.1 h
          rw [a1.2, a2.2] at this
          exact this (h3.trans g1.symm)
    · by_cases hb : b' = b
      · subst hb; rw [setF_at] at h; cases h
      · rw [setF_ne _ _ hb] at h
        obtain ⟨e', he', g1, g2⟩ := hE.bwd b' k' h
        obtain ⟨i', hi'⟩ := List.getElem?_of_mem he'
        refine ⟨e', ?_, g1, g2⟩
        rw [hl]
        refine (hmem e').2 ⟨i', ?_, hi'⟩
        rintro rfl
        rw [h2] at hi'
        cases hi'
        exact hb (kb_inj (g1.symm.trans h3))
theorem x_delete {dst : Option Nat} {t kt et t2 m : Nat} {x y : Operand} {f : UInt8 → Option Nat} {b : UInt8} [hT : Ty P t (.map kt et)] [hK : Ty P kt (.int .u8)] (hg : gd ops σ g = some true) (hx : evo σ x = some (.map (some m))) (hy : evo σ y = some (kb b)) (hM : Kd H m f) (hd : dstOk dst n = true) (he : okE ops md i ⟨dst, .call ⟨.builtin .delete, #[x, y], #[t, t2]⟩, ty, pos, after, g⟩)
    (h : ∀ H', Kd H' m (setF f b none) → Keep (· = m) H H' → H'.size = H.size → okm ops md i H H' ∧ XW P n B w0 md ops rest k (putS dst (.tuple #[]) σ) H') : XW P n B w0 md ops (.op i ⟨dst, .call ⟨.builtin .delete, #[x, y], #[t, t2]⟩, ty, pos, after, g⟩ rest) k σ H := by
  obtain ⟨es, c, h1, h2⟩ := hM
  refine x_eff (E := fun v H' => v = .tuple #[] ∧ Kd H' m (setF f b none) ∧ Keep (· = m) H H' ∧ H'.size = H.size) he hg hd (fun a w ha hw N Q hN => ?_) (fun v H' ⟨a0, a1, a2, a3⟩ => by subst a0; exact h H' a1 a2 a3)
  have h1' : w.heap[m]? = some (.map es c) := by rw [hw.heap]; exact h1
  obtain ⟨es', c', hr, hE⟩ := run_delete_kd (P := P) (t := t) (t2 := t2) (ty := ty) hT hK h1' h2 b
  have e1 : (execOp a.eval ⟨dst, .call ⟨.builtin .delete, #[x, y], #[t, t2]⟩, ty, pos, after, g⟩).run P w = .ok (.value (.tuple #[])) { w with heap := w.heap.setIfInBounds m (.map es' c') } := by
    simp [execOp, resolve, invoke, builtin, ha.evo hx, ha.evo hy, hr]
  rw [e1, Oper.upon_value]
  refine hN _ _ ⟨rfl, hw.os, hw.tape, hw.output⟩ ⟨rfl, ⟨es', c', ?_, hE⟩, ?_, ?_⟩
  · exact (heap_set h1').1
  · rw [← hw.heap]
    show Keep (· = m) w.heap (w.heap.setIfInBounds m _)
    rw [setIf_modify]
    exact keep_modify _ _ _
  · show (w.heap.setIfInBounds m _).size = _
    rw [Array.size_setIfInBounds, hw.heap]

theorem x_mlen {t kt et m : Nat} {x : Operand} {f : UInt8 → Option Nat} [hT : Ty P t (.map kt et)] (hg : gd ops σ g = some true) (hx : evo σ x = some (.map (some m))) (hM : ∀ H', hpm md i H H' → Kd H' m f) (hd : Nat.blt d n = true) (hk : okq ops md i ⟨some d, .call ⟨.builtin .len, #[x], #[t]⟩, ty, pos, after, g⟩ H)
    (h : XW P n B w0 md ops rest k ((d, .int .i64 (numF f : Nat)) :: σ) H) : XW P n B w0 md ops (.op i ⟨some d, .call ⟨.builtin .len, #[x], #[t]⟩, ty, pos, after, g⟩ rest) k σ H :=
  x_pure hk hg rfl hd (fun a w hH ha => by
    obtain ⟨es, c, h1, h2⟩ := hM _ hH
    have hl : es.size = numF f := by rw [← Array.length_toList]; exact map_len _ _ h2.stamped.2.2 h2.fwd h2.bwd
    simp [execOp, resolve, invoke, builtin, Builtin.len_, ha.evo hx, run_und hT, goInt, MapKept.run_getObj_map h1, hl]) h

/-- a walk over a map begins -/
theorem x_range {dst : Option Nat} {t kt et m : Nat} {x : Operand} {f : UInt8 → Option Nat} [hT : Ty P t (.map kt et)] (hg : gd ops σ g = some true) (hx : evo σ x = some (.map (some m))) (hM : Kd H m f) (hd : dstOk dst n = true) (he : okE ops md i ⟨dst, .range t x, ty, pos, after, g⟩)
    (h : ∀ H', It H' H.size m f (fun _ => false) → Keep Non H H' → H'.size = H.size + 1 → okm ops md i H H' ∧ XW P n B w0 md ops rest k (putS dst (ptr H.size 0) σ) H') : XW P n B w0 md ops (.op i ⟨dst, .range t x, ty, pos, after, g⟩ rest) k σ H := by
  obtain ⟨es, c, h1, h2⟩ := hM
  refine x_eff (E := fun v H' => v = ptr H.size 0 ∧ H' = H.push (.mapIter (some m) c #[] c)) he hg hd (fun a w ha hw N Q hN => ?_) (fun v H' ⟨e1, e2⟩ => by
    subst e1 e2
    have hk := keep_push H (.mapIter (some m) c #[] c)
    exact h _ ⟨es, c, #[], hk.get h1 (fun h => h), h2, by simp, fun e _ b _ => by simp⟩ hk (by simp))
  obtain ⟨w', g1, g2, g3⟩ := sem_new_map (P := P) hw (.mapIter (some m) c #[] c)
  have h1' : w.heap[m]? = some (.map es c) := by rw [hw.heap]; exact h1
  have e1 : (execOp a.eval ⟨dst, .range t x, ty, pos, after, g⟩).run P w = .ok (.value (ptr H.size 0)) w' := by
    simp only [execOp, ha.evo hx, Instr.range, Sem.run_bind, Sem.run_map, run_und hT, Result.andThen_ok, MapKept.run_getObj_map h1', Sem.run_pure, g1]
  rw [e1, Oper.upon_value]
  exact hN _ w' g2 ⟨rfl, g3⟩
theorem It.range_nil : True := trivial

/-- a step: no one is left, or one whose turn has not been -/
theorem x_next {dd r m : Nat} {x : Operand} {f : UInt8 → Option Nat} {S : UInt8 → Bool} (hg : gd ops σ g = some true) (hx : evo σ x = some (ptr r 0)) (hI : It H r m f S) (hd : dstOk (some dd) n = true) (he : okE ops md i ⟨some dd, .next x false, ty, pos, after, g⟩)
    (h0 : (∀ b k, f b = some k → S b = true) → okm ops md i H H ∧ XW P n B w0 md ops rest k ((dd, .tuple #[.bool false]) :: σ) H)
    (h1 : ∀ b kk H', f b = some kk → S b = false → ItAt H' r m f S b kk → Keep (· = r) H H' → H'.size = H.size → okm ops md i H H' ∧ XW P n B w0 md ops rest k ((dd, .tuple #[.bool true, kb b, ptr kk 0]) :: σ) H') : XW P n B w0 md ops (.op i ⟨some dd, .next x false, ty, pos, after, g⟩ rest) k σ H := by
  obtain ⟨es, c, seen, g1, g2, g3, g4⟩ := hI
  refine x_eff (E := fun v H' => (v = .tuple #[.bool false] ∧ H' = H ∧ ∀ b k, f b = some k → S b = true) ∨ ∃ b kk, v = .tuple #[.bool true, kb b, ptr kk 0] ∧ f b = some kk ∧ S b = false ∧ ItAt H' r m f S b kk ∧ Keep (· = r) H H' ∧ H'.size = H.size) he hg hd (fun a w ha hw N Q hN => ?_) (fun v H' hv => ?_)
  · have g1' : w.heap[m]? = some (.map es c) := by rw [hw.heap]; exact g1
    have g3' : w.heap[r]? = some (.mapIter (some m) c seen c) := by rw [hw.heap]; exact g3
    rcases run_next_at (P := P) w ty r m c c seen es c g3' g1' g2.stamped.1 (Nat.le_refl _) with ⟨h0, h1⟩ | ⟨e, he, w1, hw1, h1⟩
    · have e1 : (execOp a.eval ⟨some dd, .next x false, ty, pos, after, g⟩).run P w = .ok (.value (.tuple #[.bool false])) w := by
        simp only [execOp, ha.evo hx, Sem.run_bind, Sem.run_map, h1, Result.andThen_ok, Sem.run_pure]
      rw [e1, Oper.upon_value]
      refine hN _ w ⟨rfl, hw.os, hw.tape, hw.output⟩ (.inl ⟨rfl, hw.heap, fun b k hf => ?_⟩)
      obtain ⟨e, he, q1, _⟩ := g2.bwd b k hf
      rw [← g4 e he b q1]
      exact all_seen es seen h0 e he
    · obtain ⟨he1, he2⟩ := mem_left he
      obtain ⟨b, kk, q1, q2, q3⟩ := g2.fwd e he1
      have e1 : (execOp a.eval ⟨some dd, .next x false, ty, pos, after, g⟩).run P w = .ok (.value (.tuple #[.bool true, e.key, e.val])) (ChangeMaps.setBlock w1 r (.mapIter (some m) c (seen.push e.born) c)) := by
        simp only [execOp, ha.evo hx, Sem.run_bind, Sem.run_map, h1, Result.andThen_ok, Sem.run_pure]
      rw [e1, Oper.upon_value, q1, q2]
      have hh : (ChangeMaps.setBlock w1 r (.mapIter (some m) c (seen.push e.born) c)).heap = H.setIfInBounds r (.mapIter (some m) c (seen.push e.born) c) := by
        rcases hw1 with rfl | rfl <;> simp [ChangeMaps.setBlock, hw.heap, World.drew]
      have hk : Keep (· = r) H (H.setIfInBounds r (.mapIter (some m) c (seen.push e.born) c)) := by rw [setIf_modify]; exact keep_modify _ _ _
      have hrl : r < H.size := lt_of_blk g3
      refine hN _ _ ⟨rfl, ?_, ?_, ?_⟩ (.inr ⟨b, kk, rfl, q3, by rw [← g4 e he1 b q1]; exact he2, ?_, ?_, ?_⟩)
      · rcases hw1 with rfl | rfl <;> exact hw.os
      · rcases hw1 with rfl | rfl <;> exact hw.tape
      · rcases hw1 with rfl | rfl <;> exact hw.output
      · rw [hh]
        have hrm : ¬ m = r := fun e => by rw [e, g3] at g1; cases g1
        exact ⟨es, c, seen, e, hk.get g1 hrm, g2, by simp [hrl], he1, q1, q2, g4⟩
      · rw [hh]; exact hk
      · rw [hh]; simp
  · rcases hv with ⟨e1, e2, e3⟩ | ⟨b, kk, e1, e2, e3, e4, e5, e6⟩
    · subst e1 e2
      exact h0 e3
    · subst e1
      exact h1 b kk H' e2 e3 e4 e5 e6
theorem x_entry {r m kk : Nat} {x : Operand} {f : UInt8 → Option Nat} {S : UInt8 → Bool} {b : UInt8} (hg : gd ops σ g = some true) (hx : evo σ x = some (ptr r 0)) (hI : ∀ H', hpm md i H H' → ItAt H' r m f S b kk) (hd : Nat.blt d n = true) (hk : okq ops md i ⟨some d, .entry x, ty, pos, after, g⟩ H)
    (h : XW P n B w0 md ops rest k ((d, .tuple #[kb b, ptr kk 0]) :: σ) H) : XW P n B w0 md ops (.op i ⟨some d, .entry x, ty, pos, after, g⟩ rest) k σ H :=
  x_pure hk hg rfl hd (fun a w hH ha => by
    obtain ⟨es, c, seen, e, h1, h2, h3, h4, h5, h6, h7⟩ := hI _ hH
    have := run_entry_at (P := P) w r m c seen es c e h3 h1 h4 h2.stamped.2.1
    rw [h5, h6] at this
    simp [execOp, ha.evo hx, this]) h
end ops
end Go.Proofs.Ytaloblomncjgkaa.X
