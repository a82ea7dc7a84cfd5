/- What the cells of a burst trie hold. No program in it. -/
import Derived.Test.YtaloblomncjgkaaCls
import Derived.Test.YtaloblomncjgkaaKbn
namespace Go.Proofs.Ytaloblomncjgkaa.X
open Go
set_option linter.unusedVariables false
set_option linter.unusedSimpArgs false
set_option maxRecDepth 10000
attribute [local irreducible] allB
/-- how many pairs a cell holds -/
def Cel.many (c : Cel) : Nat := c.pairs.length + (if c.full then 1 else 0)
def manys (l : List Cel) : Nat := (l.map Cel.many).sum
theorem manys_take {l : List Cel} {i : Nat} {c : Cel} (h : l[i]? = some c) : manys (l.take (i + 1)) = manys (l.take i) + c.many := by
  unfold manys
  rw [List.take_add_one, h]
  simp
theorem manys_le (l : List Cel) (i : Nat) : manys (l.take i) ≤ manys l := by
  unfold manys
  conv => rhs; rw [← List.take_append_drop i l]
  rw [List.map_append, List.sum_append]
  omega
theorem manys_app (l m : List Cel) : manys (l ++ m) = manys l + manys m := by unfold manys; rw [List.map_append, List.sum_append]
theorem manys_flat {α : Type} (f : α → List Cel) : ∀ l : List α, manys (l.flatMap f) = (l.map fun b => manys (f b)).sum
  | [] => rfl
  | a :: l => by rw [List.flatMap_cons, manys_app, manys_flat f l]; simp
namespace BT
theorem cells_many : ∀ (t : BT) (w : Bytes), manys (t.cells w) = t.count := by
  intro t
  induction t with
  | nil => intro w; rfl
  | shelf ps => intro w; show ps.length + 0 + 0 = ps.length; omega
  | node own kids ih =>
    intro w
    have e : manys (allB.flatMap fun b => (kids b).cells (w ++ [b])) = sumB fun b => (kids b).count := by
      rw [manys_flat]
      unfold sumB
      congr 1
      exact List.map_congr_left fun b _ => ih b _
    have e2 : manys ((node own kids).cells w) = Cel.many { kind := 10, count := (node own kids).count, kids := kidsN kids, full := own.isSome, val := own.getD 0, key := w } + manys (allB.flatMap fun b => (kids b).cells (w ++ [b])) := rfl
    rw [e2, e]
    show 0 + (if own.isSome = true then 1 else 0) + _ = (if own.isSome then 1 else 0) + _
    omega
theorem cells_shelf : ∀ (t : BT) (w : Bytes), t.Wf w → ∀ c ∈ t.cells w, c.kind = 11 → 1 ≤ c.pairs.length ∧ c.pairs.length ≤ 8 := by
  intro t
  induction t with
  | nil => intro w _ c hc; cases hc
  | shelf ps =>
    intro w h c hc _
    have : c = { kind := 11, count := ps.length, kids := ps.length, key := w, pairs := ps } := by simpa [cells] using hc
    rw [this]
    exact ⟨List.length_pos_iff.2 h.2.1, h.2.2⟩
  | node own kids ih =>
    intro w h c hc hk
    rcases List.mem_cons.1 hc with hc | hc
    · rw [hc] at hk; have hk : (10 : Int) = 11 := hk; omega
    · obtain ⟨b, _, hb⟩ := List.mem_flatMap.1 hc
      exact ih b _ (h.2.1 b) c hb hk
theorem small {t : BT} (h : t.isNode = false) : t.size ≤ 1 := by
  cases t with
  | nil => exact Nat.zero_le _
  | shelf ps => exact Nat.le_refl _
  | node own kids => cases h
theorem node_few {t : BT} {w : Bytes} (h : t.Wf w) (hn : t.isNode = true) : 4 < t.count := by
  cases t with
  | nil => cases hn
  | shelf ps => cases hn
  | node own kids => exact h.2.2
end BT
theorem dropM_le (l : List Pr) (k : Bytes) : (dropM l k).length ≤ l.length := by
  by_cases h : there l k = true
  · have := dropM_len h; omega
  · unfold dropM; rw [if_neg h]; exact Nat.le_refl _
theorem putM_le (l : List Pr) (k : Bytes) (x : Int) : (putM l k x).length ≤ l.length + 1 := by rw [putM_len]; split <;> omega
end Go.Proofs.Ytaloblomncjgkaa.X
