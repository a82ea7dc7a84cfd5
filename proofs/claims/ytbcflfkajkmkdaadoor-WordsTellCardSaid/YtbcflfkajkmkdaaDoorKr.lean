/- Pairs by rising keys, in plain words. No program in it. -/
import Derived.Test.YtbcflfkajkmkdaaDoorKq
namespace Go.Proofs.YtbcflfkajkmkdaaDoor.X
open Go
set_option linter.unusedVariables false
set_option linter.unusedSimpArgs false

/-- do the keys rise? -/
def rises : List Pr → Bool
  | [] => true
  | [_] => true
  | p :: q :: l => decide (cmpB p.1 q.1 = -1) && rises (q :: l)
/-- how many keys stand ahead of k at the beginning -/
def rank : List Pr → Bytes → Nat
  | [], _ => 0
  | p :: l, k => if cmpB p.1 k = -1 then rank l k + 1 else 0
theorem rank_le (l : List Pr) (k : Bytes) : rank l k ≤ l.length := by
  induction l with
  | nil => simp [rank]
  | cons p l ih => unfold rank; split <;> simp <;> omega
theorem rank_step {l : List Pr} {k : Bytes} {j : Nat} {p : Pr} (h : j ≤ rank l k) (hp : l[j]? = some p) : (cmpB p.1 k = -1 → j + 1 ≤ rank l k) ∧ (cmpB p.1 k ≠ -1 → rank l k = j) := by
  induction l generalizing j with
  | nil => simp at hp
  | cons q l ih =>
    cases j with
    | zero =>
      simp at hp
      subst hp
      unfold rank
      constructor
      · intro e; rw [if_pos e]; omega
      · intro e; rw [if_neg e]
    | succ j =>
      simp at hp
      unfold rank at h ⊢
      split
      · rename_i e
        rw [if_pos e] at h
        have := ih (by omega) hp
        exact ⟨fun e => by have := this.1 e; omega, fun e => by have := this.2 e; omega⟩
      · rename_i e
        rw [if_neg e] at h
        omega
/-- is the key there, where it would stand? -/
def there (l : List Pr) (k : Bytes) : Bool := match l[rank l k]? with
  | some p => p.1 == k
  | none => false
/-- what a key has -/
def getM (l : List Pr) (k : Bytes) : Option Int := match l[rank l k]? with
  | some p => if p.1 = k then some p.2 else none
  | none => none
def putM (l : List Pr) (k : Bytes) (x : Int) : List Pr := l.take (rank l k) ++ (k, x) :: l.drop (rank l k + if there l k then 1 else 0)
def newM (l : List Pr) : List Pr := l.foldl (fun m p => putM m p.1 p.2) []
theorem putM_length (l : List Pr) (k : Bytes) (x : Int) : (putM l k x).length ≤ l.length + 1 := by
  have := rank_le l k
  unfold putM
  simp only [List.length_append, List.length_cons, List.length_take, List.length_drop]
  omega
theorem newM_take {l : List Pr} {j : Nat} {p : Pr} (h : l[j]? = some p) : newM (l.take (j + 1)) = putM (newM (l.take j)) p.1 p.2 := by
  unfold newM
  rw [List.take_add_one, h]
  simp
theorem newM_length (l : List Pr) : (newM l).length ≤ l.length := by
  have : ∀ (l m : List Pr), (l.foldl (fun m p => putM m p.1 p.2) m).length ≤ m.length + l.length := by
    intro l
    induction l with
    | nil => simp
    | cons p l ih =>
      intro m
      have h1 := ih (putM m p.1 p.2)
      have h2 := putM_length m p.1 p.2
      simp only [List.foldl_cons, List.length_cons]
      omega
  simpa [newM] using this l []
end Go.Proofs.YtbcflfkajkmkdaaDoor.X
