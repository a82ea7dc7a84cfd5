/- A burst trie in memory: which block is whose, what is where. -/
import Derived.Test.YtaloblomncjgkaaKbt
import Derived.Test.YtaloblomncjgkaaMod2
namespace Go.Proofs.Ytaloblomncjgkaa.X
open Go Go.Proofs
set_option linter.unusedVariables false
set_option linter.unusedSimpArgs false

/-! ### a walk over no map -/
section ops
variable {P : Program} {n : Nat} {B : Exit → Act → World → Prop} {w0 : World} {md : Md} {ops : List Oper} {rest : OT} {k : K} {σ : Sl} {H : Heap} {i : Nat}
variable {d : Nat} {ty : TypeId} {pos : String} {after : Array Edge} {g : Option (Nat × Bool)}
def It0 (H : Heap) (r : Nat) : Prop := H[r]? = some (.mapIter none 0 #[] 0)
theorem x_range0 {dst : Option Nat} {t kt et : Nat} {x : Operand} [hT : Ty P t (.map kt et)] (hg : gd ops σ g = some true) (hx : evo σ x = some (.map none)) (hd : dstOk dst n = true) (he : okE ops md i ⟨dst, .range t x, ty, pos, after, g⟩)
    (h : ∀ H', It0 H' H.size → Keep Non H H' → H'.size = H.size + 1 → okm ops md i H H' ∧ XW P n B w0 md ops rest k (putS dst (ptr H.size 0) σ) H') : XW P n B w0 md ops (.op i ⟨dst, .range t x, ty, pos, after, g⟩ rest) k σ H := by
  refine x_eff (E := fun v H' => v = ptr H.size 0 ∧ H' = H.push (.mapIter none 0 #[] 0)) he hg hd (fun a w ha hw N Q hN => ?_) (fun v H' ⟨e1, e2⟩ => by
    subst e1 e2
    exact h _ (by simp [It0]) (keep_push _ _) (by simp))
  obtain ⟨w', g1, g2, g3⟩ := sem_new_map (P := P) hw (.mapIter none 0 #[] 0)
  have e1 : (execOp a.eval ⟨dst, .range t x, ty, pos, after, g⟩).run P w = .ok (.value (ptr H.size 0)) w' := by
    simp only [execOp, ha.evo hx, Instr.range, Sem.run_bind, Sem.run_map, run_und hT, Result.andThen_ok, Sem.run_pure, g1]
  rw [e1, Oper.upon_value]
  exact hN _ w' g2 ⟨rfl, g3⟩
theorem x_next0 {dd r : Nat} {x : Operand} (hg : gd ops σ g = some true) (hx : evo σ x = some (ptr r 0)) (hI : It0 H r) (hd : dstOk (some dd) n = true) (he : okE ops md i ⟨some dd, .next x false, ty, pos, after, g⟩)
    (h : okm ops md i H H ∧ XW P n B w0 md ops rest k ((dd, .tuple #[.bool false]) :: σ) H) : XW P n B w0 md ops (.op i ⟨some dd, .next x false, ty, pos, after, g⟩ rest) k σ H := by
  refine x_eff (E := fun v H' => v = .tuple #[.bool false] ∧ H' = H) he hg hd (fun a w ha hw N Q hN => ?_) (fun v H' ⟨e1, e2⟩ => by
    subst e1 e2
    exact h)
  have g1 : w.heap[r]? = some (.mapIter none 0 #[] 0) := by rw [hw.heap]; exact hI
  have e1 : (execOp a.eval ⟨some dd, .next x false, ty, pos, after, g⟩).run P w = .ok (.value (.tuple #[.bool false])) w := by
    have g2 : (getObj r).run P w = .ok (.mapIter none 0 #[] 0) w := by simp [getObj, Sem.run, g1]
    simp only [execOp, ha.evo hx, Instr.next, Sem.run_bind, Sem.run_map, g2, Result.andThen_ok, Sem.run_pure]
  rw [e1, Oper.upon_value]
  exact hN _ w ⟨rfl, hw.os, hw.tape, hw.output⟩ ⟨rfl, hw.heap⟩
end ops

/-! ### whose a block is -/
/-- what a block is: none: not the tree's; 0 a key's, 1 a node, 2 a row, 3 a map; and on which way -/
abbrev Lab := Nat → Option (Nat × Bytes)
def Lab.In (L : Lab) (H : Heap) : Prop := ∀ x, L x ≠ none → x < H.size
/-- blocks that had no part have one, none of them ahead of B -/
structure Lab.Ext (B : Nat) (L L' : Lab) : Prop where
  low : ∀ x, x < B → L' x = L x
  old : ∀ x, L x ≠ none → L' x = L x
def Lab.set (L : Lab) (b : Nat) (r : Nat × Bytes) : Lab := fun x => if x = b then some r else L x
/-- a block that a call may turn that turns what is behind a way -/
def Beh (L : Lab) (w : Bytes) (x : Nat) : Prop := ∃ i w', L x = some (i + 1, w') ∧ w <+: w'
/-- a key that is the tree's -/
def KL (L : Lab) (H : Heap) (k : Value) (c : Bytes) : Prop := Bs H k c ∧ (c ≠ [] → L (sb k) = some (0, []))
section lab
variable {L L' L'' : Lab} {H H' : Heap} {B b : Nat} {r : Nat × Bytes} {w : Bytes}
theorem Lab.set_at : L.set b r b = some r := by simp [Lab.set]
theorem Lab.set_ne {x : Nat} (h : x ≠ b) : L.set b r x = L x := by simp [Lab.set, h]
theorem Lab.Ext.refl (B : Nat) (L : Lab) : Lab.Ext B L L := ⟨fun _ _ => rfl, fun _ _ => rfl⟩
theorem Lab.Ext.trans (h : Lab.Ext B L L') (h' : Lab.Ext B L' L'') : Lab.Ext B L L'' := ⟨fun x hx => (h'.low x hx).trans (h.low x hx), fun x hx => (h'.old x (by rw [h.old x hx]; exact hx)).trans (h.old x hx)⟩
theorem Lab.Ext.mono {B' : Nat} (h : Lab.Ext B L L') (hb : B' ≤ B) : Lab.Ext B' L L' := ⟨fun x hx => h.low x (by omega), h.old⟩
theorem Lab.Ext.set (h : L b = none) (hb : B ≤ b) : Lab.Ext B L (L.set b r) := ⟨fun x hx => Lab.set_ne (by omega), fun x hx => Lab.set_ne (fun e => hx (by rw [e]; exact h))⟩
theorem Lab.In.off (h : L.In H) (hb : H.size ≤ b) : L b = none := by
  by_cases e : L b = none
  · exact e
  · have := h b e
    omega
theorem Lab.In.set (h : L.In H) (hb : b < H.size) : (L.set b r).In H := fun x hx => by
  by_cases e : x = b
  · omega
  · rw [Lab.set_ne e] at hx; exact h x hx
theorem Lab.In.mono (h : L.In H) (hs : H.size ≤ H'.size) : L.In H' := fun x hx => by have := h x hx; omega
theorem KL.keep {S : Nat → Prop} {k : Value} {c : Bytes} (h : KL L H k c) (hk : Keep S H H') (hS : ∀ x, L x = some (0, []) → ¬ S x) : KL L H' k c := ⟨h.1.keep hk (fun hne => hS _ (h.2 hne)), h.2⟩
theorem KL.keepN {k : Value} {c : Bytes} (h : KL L H k c) (hk : Keep Non H H') : KL L H' k c := ⟨h.1.keepN hk, h.2⟩
theorem KL.lab {k : Value} {c : Bytes} (h : KL L H k c) (he : ∀ x, L x ≠ none → L' x = L x) : KL L' H k c := ⟨h.1, fun hne => by rw [he _ (by rw [h.2 hne]; simp)]; exact h.2 hne⟩
theorem Beh.up {x : Nat} {c : UInt8} (h : Beh L (w ++ [c]) x) : Beh L w x := let ⟨i, w', h1, h2⟩ := h; ⟨i, w', h1, (List.prefix_append w [c]).trans h2⟩
theorem Beh.key {x : Nat} (h : Beh L w x) : L x ≠ some (0, []) := fun e => by obtain ⟨i, w', h1, _⟩ := h; rw [e] at h1; injection h1 with h1; injection h1 with h1; omega
theorem Beh.some {x : Nat} (h : Beh L w x) : L x ≠ none := fun e => by obtain ⟨i, w', h1, _⟩ := h; rw [e] at h1; cases h1
theorem beh_ext {x : Nat} (h : Beh L w x) (he : ∀ x, L x ≠ none → L' x = L x) : Beh L' w x := by
  have := he x h.some
  obtain ⟨i, w', h1, h2⟩ := h
  exact ⟨i, w', by rw [this, h1], h2⟩
theorem beh_back {x : Nat} (h : Beh L' w x) (he : Lab.Ext B L L') (hx : L x ≠ none) : Beh L w x := by
  obtain ⟨i, w', h1, h2⟩ := h
  exact ⟨i, w', by rw [← he.old x hx, h1], h2⟩
theorem not_pre_self {w : Bytes} {c : UInt8} : ¬ (w ++ [c]) <+: w := fun h => by have := h.length_le; simp at this; omega
theorem pre_two {w w' : Bytes} {c d : UInt8} (h : (w ++ [c]) <+: w') (h' : (w ++ [d]) <+: w') : c = d := by
  obtain ⟨s, rfl⟩ := h
  obtain ⟨s', h'⟩ := h'
  rw [List.append_assoc, List.append_assoc] at h'
  have := List.append_cancel_left h'
  simp at this
  exact this.1.symm
end lab

/-- a tree in memory, behind a way -/
def Tr (L : Lab) (H : Heap) : BT → Bytes → Nat → Prop
  | .nil, _, _ => False
  | .shelf ps, w, b => L b = some (1, w) ∧ ∃ vk vp q, Blk H b [vk, vp, .bool false, .int .u64 0, .map none] ∧ KL L H vk w ∧ Own 2 H vp ps.length (pcs q) ∧ (0 < sc vp → L (sb vp) = some (2, w)) ∧ Pk (KL L H) q ps
  | .node own kids, w, b => L b = some (1, w) ∧ ∃ vk m f, Blk H b [vk, .slice none 0 0, .bool own.isSome, .int .u64 (own.getD 0), .map (some m)] ∧ KL L H vk w ∧ L m = some (3, w) ∧ Kd H m f ∧ ∀ c, (f c = none ∧ kids c = .nil) ∨ ∃ x, f c = some x ∧ Tr L H (kids c) (w ++ [c]) x
/-- a tree, or none -/
def Tv (L : Lab) (H : Heap) (t : BT) (w : Bytes) (v : Value) : Prop := (t = .nil ∧ v = .pointer none) ∨ ∃ b, v = ptr b 0 ∧ Tr L H t w b
section tr
variable {L L' : Lab} {H H' : Heap} {b : Nat} {w : Bytes}
theorem Tr.lab_ : ∀ {t : BT}, Tr L H t w b → L b = some (1, w)
  | .nil, h => h.elim
  | .shelf _, h => h.1
  | .node _ _, h => h.1
theorem Tr.ne : ∀ {t : BT}, Tr L H t w b → t ≠ .nil
  | .nil, h => h.elim
  | .shelf _, _ => by simp
  | .node _ _, _ => by simp
theorem Tr.keep {S : Nat → Prop} (k : Keep S H H') (hK : ∀ x, L x = some (0, []) → ¬ S x) : ∀ {t : BT} {w : Bytes} {b : Nat}, Tr L H t w b → (∀ x, Beh L w x → ¬ S x) → Tr L H' t w b := by
  intro t
  induction t with
  | nil => intro w b h _; exact h
  | shelf ps =>
    intro w b h hS
    obtain ⟨h0, vk, vp, q, h1, h2, h3, h4, h5⟩ := h
    exact ⟨h0, vk, vp, q, h1.keep k (hS b ⟨0, w, h0, List.prefix_rfl⟩), h2.keep k hK, h3.keep k (fun hc => hS _ ⟨1, w, h4 hc, List.prefix_rfl⟩), h4, h5.mono fun _ _ hb => hb.keep k hK⟩
  | node own kids ih =>
    intro w b h hS
    obtain ⟨h0, vk, m, f, h1, h2, h3, h4, h5⟩ := h
    refine ⟨h0, vk, m, f, h1.keep k (hS b ⟨0, w, h0, List.prefix_rfl⟩), h2.keep k hK, h3, h4.keep k (hS _ ⟨2, w, h3, List.prefix_rfl⟩), fun c => ?_⟩
    rcases h5 c with h | ⟨x, hx, ht⟩
    · exact .inl h
    · exact .inr ⟨x, hx, ih c ht (fun y hy => hS y hy.up)⟩
theorem Tr.lab (he : ∀ x, L x ≠ none → L' x = L x) : ∀ {t : BT} {w : Bytes} {b : Nat}, Tr L H t w b → Tr L' H t w b := by
  intro t
  induction t with
  | nil => intro w b h; exact h
  | shelf ps =>
    intro w b h
    obtain ⟨h0, vk, vp, q, h1, h2, h3, h4, h5⟩ := h
    exact ⟨by rw [he b (by rw [h0]; simp)]; exact h0, vk, vp, q, h1, h2.lab he, h3, fun hc => by rw [he _ (by rw [h4 hc]; simp)]; exact h4 hc, h5.mono fun _ _ hb => hb.lab he⟩
  | node own kids ih =>
    intro w b h
    obtain ⟨h0, vk, m, f, h1, h2, h3, h4, h5⟩ := h
    refine ⟨by rw [he b (by rw [h0]; simp)]; exact h0, vk, m, f, h1, h2.lab he, by rw [he _ (by rw [h3]; simp)]; exact h3, h4, fun c => ?_⟩
    rcases h5 c with h | ⟨x, hx, ht⟩
    · exact .inl h
    · exact .inr ⟨x, hx, ih c ht⟩
theorem Tr.keepN {t : BT} (h : Tr L H t w b) (k : Keep Non H H') : Tr L H' t w b := h.keep k (fun _ _ h => h) (fun _ _ h => h)
theorem Tv.keepN {t : BT} {v : Value} (h : Tv L H t w v) (k : Keep Non H H') : Tv L H' t w v := h.imp id fun ⟨b, e, ht⟩ => ⟨b, e, ht.keepN k⟩
theorem Tv.keep {S : Nat → Prop} {t : BT} {v : Value} (h : Tv L H t w v) (k : Keep S H H') (hK : ∀ x, L x = some (0, []) → ¬ S x) (hS : ∀ x, Beh L w x → ¬ S x) : Tv L H' t w v := h.imp id fun ⟨b, e, ht⟩ => ⟨b, e, ht.keep k hK hS⟩
theorem Tv.lab {t : BT} {v : Value} (h : Tv L H t w v) (he : ∀ x, L x ≠ none → L' x = L x) : Tv L' H t w v := h.imp id fun ⟨b, e, ht⟩ => ⟨b, e, ht.lab he⟩
/-- what a byte's look in a node's map gives -/
theorem Tv.kid {kids : UInt8 → BT} {f : UInt8 → Option Nat} (h : ∀ c, (f c = none ∧ kids c = .nil) ∨ ∃ x, f c = some x ∧ Tr L H (kids c) (w ++ [c]) x) (c : UInt8) : Tv L H (kids c) (w ++ [c]) (match f c with | some k => ptr k 0 | none => .pointer none) := by
  rcases h c with ⟨h1, h2⟩ | ⟨x, h1, h2⟩
  · rw [h1]; exact .inl ⟨h2, rfl⟩
  · rw [h1]; exact .inr ⟨x, rfl, h2⟩
end tr
end Go.Proofs.Ytaloblomncjgkaa.X
