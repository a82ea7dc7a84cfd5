/- A tree and a plain map beside it, each in blocks of its own. -/
import Derived.Test.YtaloblomncjgkaaLBur2
import Derived.Test.YtaloblomncjgkaaKbn
namespace Go.Proofs.Ytaloblomncjgkaa.X
open Go Go.Proofs
set_option linter.unusedVariables false
set_option linter.unusedSimpArgs false
set_option maxRecDepth 10000
set_option maxHeartbeats 2000000

/-- a drop of a key -/
def dropT (t : BT) (k : Bytes) : BT := if there (t.pairs []) k = true then t.drop [] k else t
theorem mine_drop {H0 H : Heap} {G : Role} {b most : Nat} {t : BT} {vk : Value} {k : Bytes} (hM : Mine H0 G H b most t) (hc : t.count ≤ 5000) (hK : Bs H vk k) (hoff : k ≠ [] → G (sb vk) = 0) :
    Ret Try.prog 31 [ptr b 0, vk] H (fun r H' => r = .tuple #[.int .u64 ((getM (t.pairs []) k).getD 0), .bool (there (t.pairs []) k)] ∧ Keep (fun z => G z ≠ 0) H H' ∧ ∃ G', G.Ext G' H H' ∧ Mine H0 G' H' b most (dropT t k)) := by
  refine Ret.mono (tree_Drop hM.bu hc hK hoff) fun r H' h => ?_
  unfold dropT
  obtain ⟨e, h | h⟩ := h
  · rw [if_neg (by rw [h.1]; simp)]
    exact ⟨e, h.2.mono (fun _ _ h => h.elim), G, ⟨fun _ _ => rfl, h.2.size⟩, hM.keepN h.2⟩
  · rw [if_pos h.1]
    obtain ⟨h1, h2, G', hE, hB⟩ := h
    exact ⟨e, h2, G', hE, hM.turn h2 hE hB⟩

theorem dropT_pairs {t : BT} (h : t.Wf0 []) (k : Bytes) : (dropT t k).pairs [] = dropM (t.pairs []) k := by
  unfold dropT
  split
  · exact BT.drop_pairs h (begins_nil' k)
  · rename_i hn
    unfold dropM
    rw [if_neg hn]
theorem dropT_size (t : BT) (k : Bytes) : (dropT t k).size ≤ t.size := by
  unfold dropT
  split
  · exact BT.drop_size t [] k
  · exact Nat.le_refl _
theorem dropT_isNode (t : BT) (k : Bytes) (h : (dropT t k).isNode = true) : t.isNode = true := by
  unfold dropT at h
  split at h
  · rw [BT.drop_isNode] at h
    simp at h
    exact h.1
  · exact h
/-- both, made since H0 -/
structure Duo (H0 : Heap) (G W : Role) (H : Heap) (b most c : Nat) (t : BT) (l : List Pr) : Prop where
  mine : Mine H0 G H b most t
  ref : Mw W H c l
  wfrom : W.From H0.size
  off : G.Off W
section duo
variable {H0 H H' : Heap} {G G' W W' : Role} {b most c : Nat} {t t' : BT} {l l' : List Pr}
theorem Duo.keepN (h : Duo H0 G W H b most c t l) (k : Keep Non H H') : Duo H0 G W H' b most c t l := ⟨h.mine.keepN k, h.ref.keepN k, h.wfrom, h.off⟩
theorem Duo.turnG (h : Duo H0 G W H b most c t l) (k : Keep (fun z => G z ≠ 0) H H') (hE : G.Ext G' H H') (hM : Mine H0 G' H' b most t') : Duo H0 G' W H' b most c t' l :=
  ⟨hM, h.ref.keep k (fun x hx e => hx (h.off x e)), h.wfrom, h.off.ext h.ref.win hE⟩
theorem Duo.turnW (h : Duo H0 G W H b most c t l) (k : Keep (· = c) H H') (hE : W.Ext W' H H') (hM : Mw W' H' c l') : Duo H0 G W' H' b most c t l' := by
  have hc : ∀ x, G x ≠ 0 → ¬ x = c := fun x hx e => h.ref.wb (by rw [← e]; exact h.off x hx)
  exact ⟨⟨h.mine.bu.keep k hc, h.mine.from_, h.wfrom.keep h.mine.keep k (fun x e => by rw [e]; exact h.ref.wb)⟩, hM, h.wfrom.ext hE h.mine.keep.size, (h.off.symm.ext h.mine.bu.gin hE).symm⟩
theorem Duo.offW (h : Duo H0 G W H b most c t l) {z : Nat} (hz : z < H0.size) : W z = 0 := by
  by_cases e : W z = 0
  · exact e
  · have := h.wfrom z e
    omega
/-- both begin -/
theorem Duo.start {H1 : Heap} (hM : Mine H0 G H b most t) (hB : Blk H1 H.size [.slice none 0 0]) (hk : Keep Non H H1) (hs : H1.size = H.size + 1) : Duo H0 G (Role.set (fun _ => 0) H.size 1) H1 b most H.size t [] := by
  have h1 : ∀ x, Role.set (fun _ => 0) H.size 1 x ≠ 0 → x = H.size := fun x hx => by
    by_cases e : x = H.size
    · exact e
    · rw [Role.set_ne _ e] at hx; exact absurd rfl hx
  refine ⟨hM.keepN hk, ⟨fun x hx => by rw [h1 x hx]; omega, by rw [Role.set_at]; omega, _, hB, PsK.nil _ _, fun h => absurd rfl h⟩, fun x hx => by rw [h1 x hx]; exact hM.keep.size, fun x hx => ?_⟩
  have := hM.bu.gin x hx
  rw [Role.set_ne _ (by omega)]
end duo
end Go.Proofs.Ytaloblomncjgkaa.X
