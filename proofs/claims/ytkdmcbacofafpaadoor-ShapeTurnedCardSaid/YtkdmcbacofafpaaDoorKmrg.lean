/- Two lists of pairs merged, in plain words. No program in it. -/
import Derived.Test.YtkdmcbacofafpaaDoorKr
namespace Go.Proofs.YtkdmcbacofafpaaDoor.X
open Go
set_option linter.unusedVariables false
set_option linter.unusedSimpArgs false

def mval (policy x y : Int) : Int := if policy = 1 then x else if policy = 2 then y else if policy = 3 then IntKind.u64.wrap (x + y) else 0
/-- what two lists make: op 1 all, 2 those of both, 3 those of the first alone -/
def mrg (op policy : Int) : List Pr → List Pr → List Pr
  | [], b => if op = 1 then b else []
  | a, [] => if op = 2 then [] else a
  | p :: a, q :: b =>
    if cmpB p.1 q.1 = -1 then (if op = 2 then [] else [p]) ++ mrg op policy a (q :: b)
    else if cmpB p.1 q.1 = 1 then (if op = 1 then [q] else []) ++ mrg op policy (p :: a) b
    else (if op = 3 then [] else [(p.1, mval policy p.2 q.2)]) ++ mrg op policy a b
termination_by a b => a.length + b.length
theorem mrg_nil_l (op policy : Int) (b : List Pr) : mrg op policy [] b = if op = 1 then b else [] := by
  unfold mrg
  rfl
theorem mrg_nil_r (op policy : Int) (a : List Pr) : mrg op policy a [] = if op = 2 then [] else a := by
  cases a with
  | nil => rw [mrg_nil_l]; split <;> split <;> rfl
  | cons p a => unfold mrg; rfl
theorem mrg_cons (op policy : Int) (p q : Pr) (a b : List Pr) : mrg op policy (p :: a) (q :: b) =
    if cmpB p.1 q.1 = -1 then (if op = 2 then [] else [p]) ++ mrg op policy a (q :: b)
    else if cmpB p.1 q.1 = 1 then (if op = 1 then [q] else []) ++ mrg op policy (p :: a) b
    else (if op = 3 then [] else [(p.1, mval policy p.2 q.2)]) ++ mrg op policy a b := by
  rw [mrg]
theorem mrg_length (op policy : Int) (a b : List Pr) : (mrg op policy a b).length ≤ a.length + b.length := by
  induction a generalizing b with
  | nil => rw [mrg_nil_l]; split <;> simp
  | cons p a iha =>
    induction b with
    | nil => rw [mrg_nil_r]; split <;> simp
    | cons q b ihb =>
      rw [mrg_cons]
      have h1 := iha (q :: b)
      have h2 := iha b
      simp only [List.length_cons] at h1 h2 ihb ⊢
      repeat' split
      all_goals simp only [List.length_append, List.length_nil, List.length_cons]; omega
theorem mrg_left (op policy : Int) (p : Pr) (a b : List Pr) (h : b = [] ∨ ∃ q c, b = q :: c ∧ cmpB p.1 q.1 = -1) : mrg op policy (p :: a) b = (if op = 2 then [] else [p]) ++ mrg op policy a b := by
  rcases h with rfl | ⟨q, c, rfl, h⟩
  · rw [mrg_nil_r, mrg_nil_r]; split <;> simp
  · rw [mrg_cons, if_pos h]
theorem mrg_right (op policy : Int) (q : Pr) (a b : List Pr) (h : a = [] ∨ ∃ p c, a = p :: c ∧ cmpB p.1 q.1 = 1) : mrg op policy a (q :: b) = (if op = 1 then [q] else []) ++ mrg op policy a b := by
  rcases h with rfl | ⟨p, c, rfl, h⟩
  · rw [mrg_nil_l, mrg_nil_l]; split <;> simp
  · rw [mrg_cons, if_neg (by omega), if_pos h]
theorem mrg_both (op policy : Int) (p q : Pr) (a b : List Pr) (h : cmpB p.1 q.1 = 0) : mrg op policy (p :: a) (q :: b) = (if op = 3 then [] else [(p.1, mval policy p.2 q.2)]) ++ mrg op policy a b := by
  rw [mrg_cons, if_neg (by omega), if_neg (by omega)]
/-- merge.Of and chapter 19's own answer -/
def mof (op policy : Int) (a b : List Pr) : Option (List Pr) × Int :=
  if ¬ (1 ≤ op ∧ op ≤ 3) ∨ ¬ (1 ≤ policy ∧ policy ≤ 3) then (none, 2)
  else if rises a = false ∨ rises b = false then (none, 9)
  else (some (mrg op policy a b), 0)
end Go.Proofs.YtkdmcbacofafpaaDoor.X
