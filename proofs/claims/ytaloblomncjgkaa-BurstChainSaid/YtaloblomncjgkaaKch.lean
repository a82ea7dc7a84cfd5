/- Nine keys that share a beginning: a node for each of its bytes. No program in it. -/
import Derived.Test.YtaloblomncjgkaaKbn
namespace Go.Proofs.Ytaloblomncjgkaa.X
open Go
set_option linter.unusedVariables false
set_option linter.unusedSimpArgs false
set_option maxRecDepth 10000
attribute [local irreducible] allB
namespace BT
/-- a node for each byte of r, and one whose children have a key each -/
def IsChain : BT → Bytes → Prop
  | nil, _ => False
  | shelf _, _ => False
  | node own kids, [] => own = none ∧ ∀ b, kids b = nil ∨ ∃ x, kids b = shelf [x]
  | node own kids, c :: r => own = none ∧ (∀ b, b ≠ c → kids b = nil) ∧ (kids c).IsChain r
theorem sumB_only {g : UInt8 → Nat} {c : UInt8} (h : ∀ b, b ≠ c → g b = 0) : sumB g = g c := by
  have h1 := sumB_upd c (g := g) (g' := fun _ => 0) (fun d hd => (h d hd).symm)
  rw [sumB_zero] at h1
  omega
theorem chain_size : ∀ (t : BT) {r : Bytes}, t.IsChain r → t.size = r.length + 1 + t.count := by
  intro t
  induction t with
  | nil => intro r h; exact h.elim
  | shelf ps => intro r h; exact h.elim
  | node own kids ih =>
    intro r h
    cases r with
    | nil =>
      obtain ⟨h1, h2⟩ := h
      subst h1
      show 1 + sumB _ = 0 + 1 + (0 + sumB _)
      have : sumB (fun b => (kids b).size) = sumB fun b => (kids b).count := sumB_congr fun b => by
        rcases h2 b with e | ⟨x, e⟩
        · rw [e]; rfl
        · rw [e]; rfl
      omega
    | cons c r =>
      obtain ⟨h1, h2, h3⟩ := h
      subst h1
      have e1 : sumB (fun b => (kids b).size) = (kids c).size := sumB_only fun b hb => by rw [h2 b hb]; rfl
      have e2 : sumB (fun b => (kids b).count) = (kids c).count := sumB_only fun b hb => by rw [h2 b hb]; rfl
      have e3 := ih c h3
      show 1 + sumB _ = (r.length + 1) + 1 + (0 + sumB _)
      omega
theorem fewer_more {w : Bytes} {own : Option Int} {kids : UInt8 → BT} (h : 4 < (fewer w (node own kids)).count) : fewer w (node own kids) = node own kids ∧ 4 < (node own kids).count := by
  have hcp : (fewer w (node own kids)).count = (node own kids).count := by rw [count_pairs _ w, fewer_pairs, ← count_pairs]
  rw [hcp] at h
  refine ⟨?_, h⟩
  unfold fewer
  rw [if_neg (by omega)]
theorem chain_drop : ∀ (t : BT) {v r k : Bytes} {b : UInt8}, t.IsChain r → k = v ++ (r ++ [b]) → 4 < (t.drop v k).count → (t.drop v k).IsChain r := by
  intro t
  induction t with
  | nil => intro v r k b h; exact h.elim
  | shelf ps => intro v r k b h; exact h.elim
  | node own kids ih =>
    intro v r k b h hk h4
    cases r with
    | nil =>
      obtain ⟨h1, h2⟩ := h
      subst h1
      have hc : k[v.length]? = some b := by rw [hk]; simp
      rw [drop, hc] at h4 ⊢
      simp only at h4 ⊢
      obtain ⟨e, _⟩ := fewer_more h4
      rw [e]
      refine ⟨rfl, fun d => ?_⟩
      by_cases hd : d = b
      · subst hd
        rw [setF_at]
        rcases h2 d with e | ⟨x, e⟩
        · rw [e]; exact .inl rfl
        · rw [e]
          unfold drop
          by_cases ht : there [x] k = true
          · have := dropM_len ht
            have : dropM [x] k = [] := List.length_eq_zero_iff.1 (by simpa using this)
            rw [if_pos this]; exact .inl rfl
          · have : dropM [x] k = [x] := by unfold dropM; rw [if_neg ht]
            rw [this, if_neg (by simp)]
            exact .inr ⟨x, rfl⟩
      · rw [setF_ne _ _ hd]; exact h2 d
    | cons c r =>
      obtain ⟨h1, h2, h3⟩ := h
      subst h1
      have hc : k[v.length]? = some c := by rw [hk]; simp
      rw [drop, hc] at h4 ⊢
      simp only at h4 ⊢
      obtain ⟨e, h5⟩ := fewer_more h4
      rw [e]
      have e2 : sumB (fun b => (setF kids c ((kids c).drop (v ++ [c]) k) b).count) = ((kids c).drop (v ++ [c]) k).count := by
        have := sumB_only (g := fun b => (setF kids c ((kids c).drop (v ++ [c]) k) b).count) (c := c) (fun d hd => by rw [setF_ne _ _ hd, h2 d hd]; rfl)
        rw [this, setF_at]
      have h6 : 4 < 0 + sumB (fun b => (setF kids c ((kids c).drop (v ++ [c]) k) b).count) := h5
      refine ⟨rfl, fun d hd => by rw [setF_ne _ _ hd]; exact h2 d hd, ?_⟩
      rw [setF_at]
      exact ih c (b := b) h3 (by rw [hk]; simp) (by omega)
theorem built_chain : ∀ (r : Bytes) {v : Bytes} {ps : List Pr}, v.length + r.length ≤ 60000 → Ok v ps → ps.length = 9 → (∀ p ∈ ps, ∃ b, p.1 = v ++ (r ++ [b])) → (built v ps).IsChain r := by
  intro r
  induction r with
  | nil =>
    intro v ps hl hO h9 hf
    rw [built_node (by omega) (by simp at hl; omega)]
    refine ⟨fnd_not fun p hp e => ?_, fun b => ?_⟩
    · obtain ⟨b, hb⟩ := hf p hp
      rw [hb] at e
      have := congrArg List.length e
      simp at this
    · by_cases hg : grp v b ps = []
      · left; simp only [hg, if_true]
      · right
        simp only [if_neg hg]
        have hr := (hO.grp b).rise
        have hk : ∀ p ∈ grp v b ps, p.1 = v ++ [b] := fun p hp => by
          unfold grp at hp
          obtain ⟨h1, h2⟩ := List.mem_filter.1 hp
          obtain ⟨d, hd⟩ := hf p h1
          rw [hd] at h2 ⊢
          simp at h2
          rw [h2]
          simp
        match hgl : grp v b ps with
        | [] => exact absurd hgl hg
        | [x] => exact ⟨x, built_few (by simp)⟩
        | x :: y :: rest =>
          exfalso
          rw [hgl] at hr hk
          have h1 := (rises_iff _).1 hr 0 x y rfl rfl
          have h2 := hk x (by simp)
          have h3 := hk y (by simp)
          rw [h2, h3, cmp_self] at h1
          omega
  | cons c r ih =>
    intro v ps hl hO h9 hf
    rw [built_node (by omega) (by simp at hl; omega)]
    have hat : ∀ p ∈ ps, p.1[v.length]? = some c := fun p hp => by
      obtain ⟨b, hb⟩ := hf p hp
      rw [hb]; simp
    have hgc : grp v c ps = ps := by
      unfold grp
      rw [List.filter_eq_self]
      intro p hp
      rw [hat p hp]; simp
    have hne : ps ≠ [] := fun e => by rw [e] at h9; simp at h9
    refine ⟨fnd_not fun p hp e => ?_, fun b hb => ?_, ?_⟩
    · obtain ⟨b, hb⟩ := hf p hp
      rw [hb] at e
      have := congrArg List.length e
      simp at this
    · have : grp v b ps = [] := by
        unfold grp
        rw [List.filter_eq_nil_iff]
        intro p hp
        rw [hat p hp]
        simp
        exact fun e => hb e.symm
      simp only [this, if_true]
    · have h1 : (if grp v c ps = [] then nil else built (v ++ [c]) (grp v c ps)) = built (v ++ [c]) ps := by rw [hgc, if_neg hne]
      show ((if grp v c ps = [] then nil else built (v ++ [c]) (grp v c ps)) : BT).IsChain r
      rw [h1]
      have hO' := hO.grp c
      rw [hgc] at hO'
      refine ih (by simp at hl ⊢; omega) hO' h9 fun p hp => ?_
      obtain ⟨b, hb⟩ := hf p hp
      exact ⟨b, by rw [hb]; simp⟩
theorem small_size {t : BT} {w : Bytes} (h : t.Wf w) (hn : t.isNode = false) : t.size = min t.count 1 := by
  cases t with
  | nil => rfl
  | shelf ps =>
    have := List.length_pos_iff.2 h.2.1
    show 1 = min ps.length 1
    omega
  | node own kids => cases hn
end BT
end Go.Proofs.Ytaloblomncjgkaa.X
