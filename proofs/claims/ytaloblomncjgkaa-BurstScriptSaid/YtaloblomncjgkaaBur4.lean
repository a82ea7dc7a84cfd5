/- The package burst: put. -/
import Derived.Test.YtaloblomncjgkaaBur3
namespace Go.Proofs.Ytaloblomncjgkaa.X
open Go Go.Proofs
set_option linter.unusedVariables false
set_option linter.unusedSimpArgs false
set_option maxRecDepth 10000
set_option maxHeartbeats 2000000

namespace BT
theorem size_pos {t : BT} (h : t ≠ nil) : 0 < t.size := by
  cases t with
  | nil => exact absurd rfl h
  | shelf ps => exact Nat.one_pos
  | node own kids => show 0 < 1 + _; omega
theorem size_kid (own own' : Option Int) (kids : UInt8 → BT) (c : UInt8) (t : BT) : (node own' (setF kids c t)).size + (kids c).size = (node own kids).size + t.size := by
  show 1 + sumB _ + _ = 1 + sumB _ + _
  have := sumB_upd c (g := fun b => (kids b).size) (g' := fun b => (setF kids c t b).size) (fun d hd => by rw [setF_ne _ _ hd])
  simp only [setF_at] at this
  omega
theorem bld_ne (n : Nat) (w : Bytes) (ps : List Pr) : bld n w ps ≠ nil := by
  cases n with
  | zero => unfold bld; simp
  | succ n => unfold bld; split <;> simp
theorem built_ne (w : Bytes) (ps : List Pr) : built w ps ≠ nil := bld_ne _ _ _
theorem put_ne (t : BT) (w : Bytes) (p : Pr) : t.put w p ≠ nil := by
  cases t with
  | nil => unfold put; simp
  | shelf ps => unfold put; split; simp; exact built_ne _ _
  | node own kids => unfold put; split <;> simp
end BT

section kid
variable {L L' : Lab} {H H1 H2 : Heap} {w : Bytes} {b m x : Nat} {vk : Value} {own : Option Int} {kids : UInt8 → BT} {f : UInt8 → Option Nat} {c : UInt8}
/-- a node, in its parts -/
structure Nd (L : Lab) (H : Heap) (own : Option Int) (kids : UInt8 → BT) (w : Bytes) (b : Nat) (vk : Value) (m : Nat) (f : UInt8 → Option Nat) : Prop where
  lb : L b = some (1, w)
  blk : Blk H b [vk, .slice none 0 0, .bool own.isSome, .int .u64 (own.getD 0), .map (some m)]
  key : KL L H vk w
  lm : L m = some (3, w)
  kd : Kd H m f
  kids : ∀ c, (f c = none ∧ kids c = .nil) ∨ ∃ x, f c = some x ∧ Tr L H (kids c) (w ++ [c]) x
theorem Nd.tr (h : Nd L H own kids w b vk m f) : Tr L H (.node own kids) w b := ⟨h.lb, vk, m, f, h.blk, h.key, h.lm, h.kd, h.kids⟩
theorem Tr.nd (h : Tr L H (.node own kids) w b) : ∃ vk m f, Nd L H own kids w b vk m f := let ⟨h0, vk, m, f, h1, h2, h3, h4, h5⟩ := h; ⟨vk, m, f, h0, h1, h2, h3, h4, h5⟩
theorem Nd.keepN (h : Nd L H own kids w b vk m f) (k : Keep Non H H1) : Nd L H1 own kids w b vk m f :=
  ⟨h.lb, h.blk.keep k (fun h => h), h.key.keepN k, h.lm, h.kd.keep k (fun h => h), fun c => (h.kids c).imp id fun ⟨x, e, t⟩ => ⟨x, e, t.keepN k⟩⟩
theorem beh_self_b (h : L b = some (1, w)) : Beh L w b := ⟨0, w, h, List.prefix_rfl⟩
theorem beh_self_m (h : L m = some (3, w)) : Beh L w m := ⟨2, w, h, List.prefix_rfl⟩
theorem not_beh_kid {i : Nat} (h : L b = some (i, w)) : ¬ Beh L (w ++ [c]) b := fun ⟨a, w', h1, h2⟩ => by
  rw [h] at h1
  simp at h1
  rw [← h1.2] at h2
  exact not_pre_self h2
theorem beh_apart {d y} (hd : Beh L (w ++ [d]) y) (hc : Beh L (w ++ [c]) y) : d = c := by
  obtain ⟨a, w', h1, h2⟩ := hd
  obtain ⟨a', w'', h3, h4⟩ := hc
  rw [h1] at h3
  simp at h3
  rw [← h3.2] at h4
  exact pre_two h2 h4
/-- a kid is another one, the map is behind it -/
theorem Nd.kid (h : Nd L H own kids w b vk m f) {t : BT} (hk : Keep (Beh L (w ++ [c])) H H1) (hE : Lab.Ext H.size L L') (hI : L.In H) (ht : Tr L' H1 t (w ++ [c]) x) (hm : Keep (· = m) H1 H2) (hM : Kd H2 m (setF f c (some x))) :
    Nd L' H2 own (setF kids c t) w b vk m (setF f c (some x)) ∧ Keep (Beh L w) H H2 := by
  have hlb : L' b = some (1, w) := by rw [hE.old b (by rw [h.lb]; simp)]; exact h.lb
  have hlm : L' m = some (3, w) := by rw [hE.old m (by rw [h.lm]; simp)]; exact h.lm
  have hkey : ∀ y, L' y = some (0, []) → ¬ y = m := fun y hy e => by rw [e, hlm] at hy; simp at hy
  have hkeyB : ∀ y, L y = some (0, []) → ¬ Beh L (w ++ [c]) y := fun y hy e => e.key hy
  refine ⟨⟨hlb, (h.blk.keep hk (not_beh_kid h.lb)).keep hm (fun e => by rw [e, hlm] at hlb; simp at hlb), ((h.key.keep hk hkeyB).lab hE.old).keep hm hkey, hlm, hM, fun d => ?_⟩, hk.mono (fun y _ hy => hy.up) |>.step hm (fun y _ e => by rw [e]; exact beh_self_m h.lm)⟩
  by_cases hd : d = c
  · subst hd
    exact .inr ⟨x, setF_at _ _ _, by rw [setF_at]; exact ht.keep hm hkey (fun y hy e => not_beh_kid hlm (e ▸ hy))⟩
  · rw [setF_ne _ _ hd, setF_ne _ _ hd]
    rcases h.kids d with h1 | ⟨y, h1, h2⟩
    · exact .inl h1
    · exact .inr ⟨y, h1, ((h2.keep hk hkeyB (fun z hz e => hd (beh_apart hz e))).lab hE.old).keep hm hkey (fun z hz e => not_beh_kid hlm (e ▸ hz))⟩
/-- a kid is gone -/
theorem Nd.unkid (h : Nd L H own kids w b vk m f) (hk : Keep (Beh L (w ++ [c])) H H1) (hE : Lab.Ext H.size L L') (hm : Keep (· = m) H1 H2) (hM : Kd H2 m (setF f c none)) :
    Nd L' H2 own (setF kids c .nil) w b vk m (setF f c none) ∧ Keep (Beh L w) H H2 := by
  have hlb : L' b = some (1, w) := by rw [hE.old b (by rw [h.lb]; simp)]; exact h.lb
  have hlm : L' m = some (3, w) := by rw [hE.old m (by rw [h.lm]; simp)]; exact h.lm
  have hkey : ∀ y, L' y = some (0, []) → ¬ y = m := fun y hy e => by rw [e, hlm] at hy; simp at hy
  have hkeyB : ∀ y, L y = some (0, []) → ¬ Beh L (w ++ [c]) y := fun y hy e => e.key hy
  refine ⟨⟨hlb, (h.blk.keep hk (not_beh_kid h.lb)).keep hm (fun e => by rw [e, hlm] at hlb; simp at hlb), ((h.key.keep hk hkeyB).lab hE.old).keep hm hkey, hlm, hM, fun d => ?_⟩, hk.mono (fun y _ hy => hy.up) |>.step hm (fun y _ e => by rw [e]; exact beh_self_m h.lm)⟩
  by_cases hd : d = c
  · subst hd
    exact .inl ⟨setF_at _ _ _, setF_at _ _ _⟩
  · rw [setF_ne _ _ hd, setF_ne _ _ hd]
    rcases h.kids d with h1 | ⟨y, h1, h2⟩
    · exact .inl h1
    · exact .inr ⟨y, h1, ((h2.keep hk hkeyB (fun z hz e => hd (beh_apart hz e))).lab hE.old).keep hm hkey (fun z hz e => not_beh_kid hlm (e ▸ hz))⟩
/-- the node's own value is another one -/
theorem Nd.own_ (h : Nd L H own kids w b vk m f) {own' : Option Int} (hk : Keep (· = b) H H1) (hB : Blk H1 b [vk, .slice none 0 0, .bool own'.isSome, .int .u64 (own'.getD 0), .map (some m)]) : Nd L H1 own' kids w b vk m f := by
  have hkey : ∀ y, L y = some (0, []) → ¬ y = b := fun y hy e => by rw [e, h.lb] at hy; simp at hy
  exact ⟨h.lb, hB, h.key.keep hk hkey, h.lm, h.kd.keep hk (fun e => by have := h.lm; rw [e, h.lb] at this; simp at this), fun c => (h.kids c).imp id fun ⟨x, e, t⟩ => ⟨x, e, t.keep hk hkey (fun z hz e => not_beh_kid h.lb (e ▸ hz))⟩⟩
end kid
end Go.Proofs.Ytaloblomncjgkaa.X
