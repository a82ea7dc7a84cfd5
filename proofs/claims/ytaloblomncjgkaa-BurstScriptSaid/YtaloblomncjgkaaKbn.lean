/- When a burst trie is a node, how many keys it has. No program in it. -/
import Derived.Test.YtaloblomncjgkaaKbs
namespace Go.Proofs.Ytaloblomncjgkaa.X
open Go
set_option linter.unusedVariables false
set_option linter.unusedSimpArgs false
set_option maxRecDepth 10000
attribute [local irreducible] allB
theorem putM_len {l : List Pr} {k : Bytes} {x : Int} : (putM l k x).length = l.length + (if there l k then 0 else 1) := by
  cases h : there l k with
  | true => rw [putM_there' h, List.length_set]; rfl
  | false => rw [putM_not' h]; have := rank_le l k; simp; omega
theorem dropM_len {l : List Pr} {k : Bytes} (h : there l k = true) : (dropM l k).length + 1 = l.length := by
  obtain ⟨p, h1, _, _⟩ := getM_there.2 h
  have hlt := (List.getElem?_eq_some_iff.1 h1).1
  unfold dropM
  rw [h, if_pos rfl]
  simp
  omega
theorem there_fnd {l : List Pr} (hr : rises l = true) (k : Bytes) : there l k = (fnd l k).isSome := by rw [fnd_getM hr, getM_is']
theorem there_putM {l : List Pr} (hr : rises l = true) (k q : Bytes) (x : Int) : there (putM l k x) q = (decide (q = k) || there l q) := by
  rw [there_fnd (putM_rises hr k x), there_fnd hr, fnd_putM hr]
  by_cases h : q = k <;> simp [h]
theorem there_dropM {l : List Pr} (hr : rises l = true) (k q : Bytes) : there (dropM l k) q = (!decide (q = k) && there l q) := by
  rw [there_fnd (dropM_rises hr k), there_fnd hr, fnd_dropM hr]
  by_cases h : q = k <;> simp [h]
namespace BT
def isNode : BT → Bool
  | node _ _ => true
  | _ => false
theorem put_cnt {t : BT} {w : Bytes} {p : Pr} (h : t.Wf0 w) (hb : begins p.1 w = true) (hm : p.1.length ≤ 65535) : (t.put w p).count = t.count + (if there (t.pairs w) p.1 then 0 else 1) := by
  rw [count_pairs _ w, put_pairs h hb hm, putM_len, ← count_pairs]
theorem drop_cnt {t : BT} {w k : Bytes} (h : t.Wf0 w) (hb : begins k w = true) (hth : there (t.pairs w) k = true) : (t.drop w k).count + 1 = t.count := by
  rw [count_pairs (t.drop w k) w, drop_pairs h hb, dropM_len hth, ← count_pairs]
theorem put_isNode {t : BT} {w : Bytes} {p : Pr} (h : t.Wf w) (hb : begins p.1 w = true) (hm : p.1.length ≤ 65535) : (t.put w p).isNode = (t.isNode || decide (8 < (t.put w p).count)) := by
  cases t with
  | nil => rfl
  | shelf ps =>
    have hl := beg_len hb
    unfold put
    split
    · rename_i hth
      have : (shelf (putM ps p.1 p.2)).count = ps.length := by show (putM _ _ _).length = _; rw [putM_len, hth]; rfl
      rw [this]
      have := h.2.2
      show false = (false || decide (8 < ps.length))
      rw [decide_eq_false (by omega)]
      rfl
    · have hc := built_count (by omega) (Ok.put h.1 hb hm)
      rw [hc]
      show (built w (putM ps p.1 p.2)).isNode = (false || decide _)
      by_cases h8 : (putM ps p.1 p.2).length ≤ 8
      · rw [built_few h8, decide_eq_false (by omega)]; rfl
      · rw [built_node h8 (by have := h.1.short h.2.1; omega), decide_eq_true (by omega)]; rfl
  | node own kids =>
    cases hc : p.1[w.length]? with
    | none => rw [put, hc]; rfl
    | some c => rw [put, hc]; rfl
theorem fewer_isNode {own : Option Int} {kids : UInt8 → BT} {w : Bytes} : (fewer w (node own kids)).isNode = decide (4 < (fewer w (node own kids)).count) := by
  have hcp : (fewer w (node own kids)).count = (node own kids).count := by rw [count_pairs _ w, fewer_pairs, ← count_pairs]
  rw [hcp]
  unfold fewer
  split
  · rename_i h; rw [decide_eq_false (by omega)]; rfl
  · rename_i h; rw [decide_eq_true (by omega)]; rfl
theorem drop_isNode {t : BT} {w k : Bytes} : (t.drop w k).isNode = (t.isNode && decide (4 < (t.drop w k).count)) := by
  cases t with
  | nil => rfl
  | shelf ps => unfold drop; split <;> rfl
  | node own kids =>
    cases hc : k[w.length]? with
    | none => rw [drop, hc]; exact fewer_isNode
    | some c => rw [drop, hc]; exact fewer_isNode
end BT
/-- behind i puts -/
def stepsL (l0 l2 : List Pr) (i : Nat) : List Pr := (l2.take i).foldl (fun m p => putM m p.1 p.2) l0
section steps
variable {l0 l2 : List Pr} {i : Nat} {p : Pr}
theorem stepsL_zero (l0 l2 : List Pr) : stepsL l0 l2 0 = l0 := rfl
theorem stepsL_succ (h : l2[i]? = some p) : stepsL l0 l2 (i + 1) = putM (stepsL l0 l2 i) p.1 p.2 := by
  unfold stepsL
  rw [List.take_add_one, h, List.foldl_append]
  rfl
theorem steps_rises : ∀ (l : List Pr) {m : List Pr}, rises m = true → rises (l.foldl (fun m p => putM m p.1 p.2) m) = true
  | [], _, h => h
  | p :: l, m, h => steps_rises l (putM_rises h p.1 p.2)
theorem stepsL_rises (h : rises l0 = true) (i : Nat) : rises (stepsL l0 l2 i) = true := steps_rises _ h
/-- what the puts answer -/
def recs (l0 l2 : List Pr) : List (Int × Bool) := (List.range l2.length).map fun i => ((getM (stepsL l0 l2 i) (l2.getD i ([], 0)).1).getD 0, there (stepsL l0 l2 i) (l2.getD i ([], 0)).1)
theorem recs_get (h : l2[i]? = some p) : (recs l0 l2)[i]? = some ((getM (stepsL l0 l2 i) p.1).getD 0, there (stepsL l0 l2 i) p.1) := by
  have hi := (List.getElem?_eq_some_iff.1 h).1
  unfold recs
  rw [List.getElem?_map, List.getElem?_range hi]
  simp [List.getD_eq_getElem?_getD, h]
theorem recs_len (l0 l2 : List Pr) : (recs l0 l2).length = l2.length := by unfold recs; simp
theorem recs_take (h : l2[i]? = some p) {α : Type} (f : Int × Bool → α) : ((recs l0 l2).take (i + 1)).map f = ((recs l0 l2).take i).map f ++ [f ((getM (stepsL l0 l2 i) p.1).getD 0, there (stepsL l0 l2 i) p.1)] := by
  rw [List.take_add_one, recs_get h, List.map_append]
  rfl
end steps
section undo
variable {l : List Pr} {k : Bytes} {v : Int}
theorem put_there (hr : rises l = true) : there (putM l k v) k = true := by rw [there_putM hr]; simp
theorem put_getM (hr : rises l = true) : getM (putM l k v) k = some v := by rw [← fnd_getM (putM_rises hr k v), fnd_putM hr, if_pos rfl]
theorem undo_put (hr : rises l = true) (h : there l k = true) : putM (putM l k v) k ((getM l k).getD 0) = l := by
  have hr1 := putM_rises hr k v
  refine fnd_ext (putM_rises hr1 _ _) hr fun q => ?_
  rw [fnd_putM hr1, fnd_putM hr]
  by_cases e : q = k
  · subst e
    obtain ⟨p, _, _, h3⟩ := getM_there.2 h
    rw [if_pos rfl, fnd_getM hr, h3]
    rfl
  · rw [if_neg e, if_neg e]
theorem undo_drop (hr : rises l = true) (h : there l k = false) : dropM (putM l k v) k = l := by
  have hr1 := putM_rises hr k v
  refine fnd_ext (dropM_rises hr1 _) hr fun q => ?_
  rw [fnd_dropM hr1, fnd_putM hr]
  by_cases e : q = k
  · subst e
    rw [if_pos rfl, fnd_getM hr, getM_there.1 h]
  · rw [if_neg e, if_neg e]
end undo
end Go.Proofs.Ytaloblomncjgkaa.X
