/- The walk library: a plain logic over the calls of a program; memory as rows of cells. -/
import Derived.WalkKit
import Derived.WalkSpells
import Derived.WalkLawsBesides
import Derived.Still
import Derived.Deep.Quiet
import Derived.TacticsIn
import Derived.RangeFuncRecord
import Derived.Lib.BytesEntry
import Derived.Lib.Bytealg
import Derived.ProofKit
import Derived.Deep.SlicePairs
import Derived.Lib.Overlaps
/- A region that draws its order, in which some operations turn memory: a schedule (or a tree of schedules) stands for every order. -/
namespace Go.Proofs.YtbcflfkajkmkdaaDoor.X
open Go
set_option linter.unusedVariables false
set_option linter.unusedSimpArgs false

/-- what is known of a region: which operations turn memory, and the loads, each with its class -/
structure RI where
  eff : List Nat
  cl : List (Nat × Nat)

def RI.isEff (r : RI) (i : Nat) : Bool := r.eff.contains i
def RI.cls (r : RI) (i : Nat) : Option Nat := (r.cl.find? (fun x => x.1 == i)).map (·.2)
/-- does operation j wait for i? -/
def waitsFor (ops : Array Oper) (j i : Nat) : Bool := ((ops[j]?).map fun o => o.after.any fun e => Region.binds .any e && e.on == i).getD false
/-- must operation j keep class c? -/
def RI.needs (r : RI) (ops : Array Oper) (j c : Nat) : Bool := r.cl.any fun x => x.2 == c && !(x.1 == j) && !waitsFor ops j x.1

section
variable {P : Program} {ops : Array Oper} {Q : Exit → Act → World → Prop} {Cs : Nat → World → Prop} {ri : RI}

def wpAnyC (P : Program) (ops : Array Oper) (Q : Exit → Act → World → Prop) (Cs : Nat → World → Prop) (ri : RI) : Nat → Array Bool → Act → World → Prop
  | 0, listed, a, w => Region.ready .any ops listed = [] ∧ Q .normal a w
  | fuel + 1, listed, a, w =>
    (Region.ready .any ops listed = [] → Q .normal a w) ∧
    ∀ i ∈ Region.ready .any ops listed, wpOp P ops Q i (fun a' w' => (∀ c, ri.needs ops i c = true → Cs c w → Cs c w') ∧ wpAnyC P ops Q Cs ri fuel (listed.setIfInBounds i true) a' w') a w

theorem wpAny_of_C : ∀ (fuel : Nat) (listed : Array Bool) (a : Act) (w : World), wpAnyC P ops Q Cs ri fuel listed a w → wpAny P .any ops Q fuel listed a w
  | 0, _, _, _, h => h
  | fuel + 1, _, _, _, h => ⟨h.1, fun i hi => wpOp_mono (fun a w hh => wpAny_of_C fuel _ a w hh.2) (h.2 i hi)⟩

/-- operation o (number i) yields v in state a, in every world of its class -/
def YieldsC (P : Program) (ops : Array Oper) (Cs : Nat → World → Prop) (ri : RI) (i : Nat) (o : Oper) (v : Value) (a : Act) : Prop :=
  (Region.wanted o (yielded ops a.tmps) = true ∧ ∀ w, (∀ c, ri.cls i = some c → Cs c w) → (execOp a.eval o).run P w = .ok (.value v) w) ∨
  (Region.wanted o (yielded ops a.tmps) = false ∧ v = undef)

theorem YieldsC.of_same {i : Nat} {o : Oper} {v : Value} {a a' : Act} (hy : YieldsC P ops Cs ri i o v a) (he : execOp a'.eval o = execOp a.eval o)
    (hw : Region.wanted o (yielded ops a'.tmps) = Region.wanted o (yielded ops a.tmps)) : YieldsC P ops Cs ri i o v a' := by
  unfold YieldsC at *
  rw [he, hw]
  exact hy

theorem YieldsC.wpOp {i : Nat} {o : Oper} {v : Value} {a : Act} {w : World} (hi : ops[i]? = some o) (hy : YieldsC P ops Cs ri i o v a) (hc : ∀ c, ri.cls i = some c → Cs c w)
    {K : Act → World → Prop} (h : K (a.put o.dst v) w) : wpOp P ops Q i K a w := by
  unfold Go.wpOp
  simp only [hi]
  rcases hy with ⟨hw, hv⟩ | ⟨hw, rfl⟩
  · simp only [hw, if_true, Oper.wp, hv w hc, Oper.upon]; exact .inl h
  · simp only [hw, Bool.false_eq_true, if_false]; exact h

theorem wpOp_putC {i j : Nat} {oi oj : Oper} {v : Value} (hj : ops[j]? = some oj) (hap : oi.apart ops oj = true)
    (hsi : ∀ cs b, oi.op ≠ .select cs b) (hsj : ∀ cs b, oj.op ≠ .select cs b)
    (hQ : ∀ c a w, Q (.panic c) (a.put oi.dst v) w → Q (.panic c) a w) {K : Act → World → Prop} {a : Act} {w : World}
    (hy : YieldsC P ops Cs ri i oi v a) (h : wpOp P ops Q j K (a.put oi.dst v) w) :
    wpOp P ops Q j (fun a' w' => YieldsC P ops Cs ri i oi v a' ∧ K (a'.put oi.dst v) w') a w := by
  obtain ⟨h1, h2, h3⟩ := Oper.apart_spec hap
  have keep : ∀ (a : Act), YieldsC P ops Cs ri i oi v a → ∀ u, YieldsC P ops Cs ri i oi v (a.put oj.dst u) := fun a hy u =>
    hy.of_same (execOp_put oi hsi a oj.dst u h3) (wanted_put oi a oj.dst u h3)
  have keepD : ∀ d, YieldsC P ops Cs ri i oi v { a with defers := d :: a.defers } := fun d => hy.of_same rfl rfl
  unfold wpOp at *
  simp only [hj] at *
  rw [wanted_put oj a oi.dst v h1] at h
  split
  · rename_i hw
    simp only [hw, if_true] at h
    rcases h with h | ⟨hasks, hlets⟩
    case inr => exact .inr ⟨by unfold Oper.asks at *; rw [execOp_put oj hsj a oi.dst v h1] at hasks; exact hasks, hlets⟩
    refine .inl ?_
    unfold Oper.wp at *
    rw [execOp_put oj hsj a oi.dst v h1] at h
    generalize (execOp a.eval oj).run P w = r at *
    cases r with
    | ok n w' =>
      cases n <;> simp only [Oper.upon] at h ⊢
      case value u => exact ⟨keep a hy u, by rw [← Act.put_comm a v u h2]; exact h⟩
      case skip => exact ⟨keep a hy _, by rw [← Act.put_comm a v undef h2]; exact h⟩
      case defer d =>
        refine ⟨keep _ (keepD d) _, ?_⟩
        rw [← Act.put_comm _ v undef h2, ← Act.put_defers]
        exact h
      case enter f args =>
        refine Calls.mono h fun e w'' he => ?_
        cases e with
        | returned u => exact ⟨keep a hy u, by rw [← Act.put_comm a v u h2]; exact he⟩
        | panicked c => exact hQ _ _ _ he
        | outgrown => exact he
      case row row args => exact Rows.mono h fun u w'' he => ⟨keep a hy u, by rw [← Act.put_comm a v u h2]; exact he⟩
    | halt x w' =>
      cases x <;> simp only [Oper.upon] at h ⊢
      case panic u => exact hQ _ _ _ h
  · rename_i hw
    simp only [hw] at h
    exact ⟨keep a hy _, by rw [← Act.put_comm a v undef h2]; exact h⟩

theorem cls_mem {i c : Nat} (h : ri.cls i = some c) : (i, c) ∈ ri.cl := by
  unfold RI.cls at h
  cases hf : ri.cl.find? (fun x => x.1 == i) with
  | none => rw [hf] at h; simp at h
  | some x =>
    rw [hf] at h
    simp at h
    have hm := List.mem_of_find?_eq_some hf
    have hp := List.find?_some hf
    simp at hp
    obtain ⟨x1, x2⟩ := x
    simp at hp h
    subst hp; subst h
    exact hm

/-- an operation that may come up now, and leaves memory alone, may be taken first -/
theorem wpAnyC_first {i : Nat} {oi : Oper} {v : Value} (hi : ops[i]? = some oi) (hsel : ∀ (j : Nat) (o : Oper) cs b, ops[j]? = some o → o.op ≠ .select cs b)
    (hQ : ∀ c a w, Q (.panic c) (a.put oi.dst v) w → Q (.panic c) a w) :
    ∀ (fuel : Nat) (listed : Array Bool) (a : Act) (w : World),
      (∀ j oj, ops[j]? = some oj → j ≠ i → listed.getD j true = false → (∀ e ∈ oj.after, Region.binds .any e = true → e.on ≠ i) → oi.apart ops oj = true) →
      i ∈ Region.ready .any ops listed → YieldsC P ops Cs ri i oi v a → (∀ c, ri.cls i = some c → Cs c w) →
      wpAnyC P ops Q Cs ri fuel (listed.setIfInBounds i true) (a.put oi.dst v) w → wpAnyC P ops Q Cs ri (fuel + 1) listed a w := by
  intro fuel
  induction fuel with
  | zero =>
    intro listed a w _ hr hy hC H
    refine ⟨fun h => (by rw [h] at hr; cases hr), fun j hj => ?_⟩
    by_cases hji : j = i
    · subst hji; exact hy.wpOp hi hC ⟨fun c _ h => h, H⟩
    · have := ready_mono hj hji
      rw [H.1] at this
      cases this
  | succ fuel ih =>
    intro listed a w hfree hr hy hC H
    refine ⟨fun h => (by rw [h] at hr; cases hr), fun j hj => ?_⟩
    by_cases hji : j = i
    · subst hji; exact hy.wpOp hi hC ⟨fun c _ h => h, H⟩
    · have h1 := H.2 j (ready_mono hj hji)
      obtain ⟨hjun, oj, hoj, hall⟩ := mem_ready.1 hj
      have hnot : ∀ e ∈ oj.after, Region.binds .any e = true → e.on ≠ i := fun e he hb heq => by
        have h1 := hall e he hb
        have h0 := (mem_ready.1 hr).1
        rw [heq] at h1
        rcases Nat.lt_or_ge i listed.size with h' | h'
        · simp [h'] at h0 h1; rw [h0] at h1; cases h1
        · simp [Array.getElem?_eq_none h'] at h1
      have hneed : ∀ c, ri.cls i = some c → ri.needs ops j c = true := fun c hc => by
        unfold RI.needs
        rw [List.any_eq_true]
        refine ⟨(i, c), cls_mem hc, ?_⟩
        have hw : waitsFor ops j i = false := by
          unfold waitsFor
          rw [hoj]
          simp only [Option.map_some, Option.getD_some]
          cases hany : (oj.after.any fun e => Region.binds .any e && e.on == i) with
          | false => rfl
          | true =>
            rw [Array.any_eq_true] at hany
            obtain ⟨x, hx, hb⟩ := hany
            simp only [Bool.and_eq_true, beq_iff_eq] at hb
            exact absurd hb.2 (hnot _ (Array.getElem_mem hx) hb.1)
        have hne : (i == j) = false := by simp; exact fun e => hji e.symm
        simp [hw, hne]
      have h2 := wpOp_putC (Cs := Cs) (ri := ri) (i := i) hoj (hfree j oj hoj hji hjun hnot) (fun cs b => hsel i oi cs b hi) (fun cs b => hsel j oj cs b hoj) hQ hy h1
      have hfree' : ∀ k ok, ops[k]? = some ok → k ≠ i → (listed.setIfInBounds j true).getD k true = false →
          (∀ e ∈ ok.after, Region.binds .any e = true → e.on ≠ i) → oi.apart ops ok = true := fun k ok hk hki hun hno => by
        refine hfree k ok hk hki ?_ hno
        by_cases hjk : j = k
        · subst hjk; exact hjun
        · rw [getD_set_ne true hjk] at hun; exact hun
      refine wpOp_mono (fun a' w' h3 => ?_) h2
      obtain ⟨hy', hpres, hrest⟩ := h3
      refine ⟨hpres, ih (listed.setIfInBounds j true) a' w' hfree' (ready_mono hr (Ne.symm hji)) hy' (fun c hc => hpres c (hneed c hc) (hC c hc)) ?_⟩
      rw [Array.setIfInBounds_comm _ _ hji]
      exact hrest

/-- schedules -/
inductive OT where
  | nil
  | op (i : Nat) (o : Oper) (r : OT)
  | alt (a b : OT)

def OT.ofList : List Oper → OT
  | [] => .nil
  | o :: r => .op 0 o (OT.ofList r)
def OT.toList : OT → List Oper
  | .nil => []
  | .op _ o r => o :: r.toList
  | .alt _ _ => []
theorem OT.toList_ofList (l : List Oper) : (OT.ofList l).toList = l := by
  induction l with
  | nil => rfl
  | cons o r ih => simp [OT.ofList, OT.toList, ih]

inductive IT where
  | nil
  | op (i : Nat) (r : IT)
  | alt (a b : IT)
def IT.ot (ops : List Oper) : IT → OT
  | .nil => .nil
  | .op i r => match ops[i]? with
    | some o => .op i o (r.ot ops)
    | none => .nil
  | .alt a b => .alt (a.ot ops) (b.ot ops)
def IT.heads : IT → List Nat
  | .nil => []
  | .op i _ => [i]
  | .alt a b => a.heads ++ b.heads

/-- the look at a schedule: nothing of memory in it; 'alt': within alternatives -/
def IT.ok (ops : Array Oper) (ri : RI) : Bool → IT → Array Bool → Bool
  | false, .nil, listed => (Region.ready .any ops listed).isEmpty
  | false, .op i r, listed =>
    bif ri.isEff i then Region.ready .any ops listed == [i] && IT.ok ops ri false r (listed.setIfInBounds i true)
    else (Region.ready .any ops listed).contains i && Region.free .any ops listed i && IT.ok ops ri false r (listed.setIfInBounds i true)
  | false, .alt a b, listed => (Region.ready .any ops listed).all (fun i => (a.heads ++ b.heads).contains i) && IT.ok ops ri true a listed && IT.ok ops ri true b listed
  | true, .op i r, listed => ri.isEff i && (Region.ready .any ops listed).contains i && IT.ok ops ri false r (listed.setIfInBounds i true)
  | true, .alt a b, listed => IT.ok ops ri true a listed && IT.ok ops ri true b listed
  | true, .nil, _ => false

def IT.long : IT → Nat
  | .nil => 0
  | .op _ r => r.long + 1
  | .alt a b => max a.long b.long

/-- the walk along a schedule -/
def wpH (P : Program) (ops : Array Oper) (Q : Exit → Act → World → Prop) (Cs : Nat → World → Prop) (ri : RI) : OT → Act → World → Prop
  | .nil, a, w => Q .normal a w
  | .op i o r, a, w =>
    if ri.isEff i then wpOp P ops Q i (fun a' w' => (∀ c, ri.needs ops i c = true → Cs c w → Cs c w') ∧ wpH P ops Q Cs ri r a' w') a w
    else ∃ v, YieldsC P ops Cs ri i o v a ∧ (∀ c, ri.cls i = some c → Cs c w) ∧ wpH P ops Q Cs ri r (a.put o.dst v) w
  | .alt x y, a, w => wpH P ops Q Cs ri x a w ∧ wpH P ops Q Cs ri y a w

def unlisted (ops : Array Oper) (listed : Array Bool) : Nat := ((List.range ops.size).filter fun i => !listed.getD i true).length

theorem ready_nil_mono {listed : Array Bool} {i : Nat} (h : Region.ready .any ops listed = []) : ∀ fuel a w, Q .normal a w → wpAnyC P ops Q Cs ri fuel listed a w := by
  intro fuel a w hq
  cases fuel with
  | zero => exact ⟨h, hq⟩
  | succ m => exact ⟨fun _ => hq, fun i hi => by rw [h] at hi; cases hi⟩

theorem wpAnyC_of_H (hsel : ∀ (j : Nat) (o : Oper) cs b, ops[j]? = some o → o.op ≠ .select cs b) (hQ : ∀ c a w d v, Q (.panic c) (a.put d v) w → Q (.panic c) a w) (lops : List Oper) (hl : ops = lops.toArray) :
    ∀ (t : IT) (listed : Array Bool) (fuel : Nat), t.long ≤ fuel →
      (IT.ok ops ri false t listed = true → ∀ a w, wpH P ops Q Cs ri (t.ot lops) a w → wpAnyC P ops Q Cs ri fuel listed a w) ∧
      (IT.ok ops ri true t listed = true → ∀ a w, wpH P ops Q Cs ri (t.ot lops) a w → fuel ≠ 0 ∧ Region.ready .any ops listed ≠ [] ∧ ∀ i ∈ t.heads, ∀ m, fuel = m + 1 →
        wpOp P ops Q i (fun a' w' => (∀ c, ri.needs ops i c = true → Cs c w → Cs c w') ∧ wpAnyC P ops Q Cs ri m (listed.setIfInBounds i true) a' w') a w) := by
  intro t
  induction t with
  | nil =>
    intro listed fuel _
    refine ⟨fun hok a w h => ?_, fun hok => by simp [IT.ok] at hok⟩
    simp only [IT.ok, List.isEmpty_iff] at hok
    exact ready_nil_mono (i := 0) hok fuel a w h
  | op i r ih =>
    intro listed fuel hf
    simp only [IT.long] at hf
    obtain ⟨m, rfl⟩ : ∃ m, fuel = m + 1 := ⟨fuel - 1, by omega⟩
    constructor
    · intro hok a w h
      simp only [IT.ok] at hok
      cases ho : lops[i]? with
      | none =>
        exfalso
        have ho' : ops[i]? = none := by rw [hl]; simpa using ho
        have hno : i ∉ Region.ready .any ops listed := fun hm => by
          obtain ⟨_, o, ho2, _⟩ := mem_ready.1 hm
          rw [ho'] at ho2; cases ho2
        cases he : ri.isEff i with
        | true =>
          rw [he] at hok
          simp only [cond_true, Bool.and_eq_true, beq_iff_eq] at hok
          exact hno (by rw [hok.1]; simp)
        | false =>
          rw [he] at hok
          simp only [cond_false, Bool.and_eq_true] at hok
          exact hno (by simpa using hok.1.1)
      | some o =>
        have ho' : ops[i]? = some o := by rw [hl]; simpa using ho
        have hot : (IT.op i r).ot lops = .op i o (r.ot lops) := by simp [IT.ot, ho]
        rw [hot] at h
        simp only [wpH] at h
        cases he : ri.isEff i with
        | true =>
          rw [he] at hok h
          simp only [cond_true, Bool.and_eq_true, beq_iff_eq] at hok
          simp only [if_true] at h
          refine ⟨(fun hn => by rw [hok.1] at hn; cases hn), fun j hj => ?_⟩
          rw [hok.1] at hj
          have : j = i := by simpa using hj
          subst this
          exact wpOp_mono (fun a' w' hh => ⟨hh.1, (ih _ m (by omega)).1 hok.2 a' w' hh.2⟩) h
        | false =>
          rw [he] at hok h
          simp only [cond_false, Bool.and_eq_true] at hok
          simp only [Bool.false_eq_true, if_false] at h
          obtain ⟨v, hy, hC, hr⟩ := h
          exact wpAnyC_first ho' hsel (fun c a w => hQ c a w _ _) m listed a w (Region.free_spec ho' hok.1.2) (by simpa using hok.1.1) hy hC ((ih _ m (by omega)).1 hok.2 _ w hr)
    · intro hok a w h
      simp only [IT.ok, Bool.and_eq_true] at hok
      have hin : i ∈ Region.ready .any ops listed := by simpa using hok.1.2
      refine ⟨by omega, (fun hn => by rw [hn] at hin; cases hin), fun j hj m' hm => ?_⟩
      obtain rfl : m = m' := by omega
      have : j = i := by simpa [IT.heads] using hj
      subst this
      cases ho : lops[j]? with
      | none =>
        exfalso
        have ho' : ops[j]? = none := by rw [hl]; simpa using ho
        obtain ⟨_, o, ho2, _⟩ := mem_ready.1 hin
        rw [ho'] at ho2; cases ho2
      | some o =>
        have hot : (IT.op j r).ot lops = .op j o (r.ot lops) := by simp [IT.ot, ho]
        rw [hot] at h
        simp only [wpH, hok.1.1, if_true] at h
        exact wpOp_mono (fun a' w' hh => ⟨hh.1, (ih _ m (by omega)).1 hok.2 a' w' hh.2⟩) h
  | alt x y ihx ihy =>
    intro listed fuel hf
    simp only [IT.long] at hf
    have hx := ihx listed fuel (by omega)
    have hy := ihy listed fuel (by omega)
    constructor
    · intro hok a w h
      simp only [IT.ok, Bool.and_eq_true] at hok
      obtain ⟨⟨hr, h1⟩, h2⟩ := hok
      have hh : wpH P ops Q Cs ri (x.ot lops) a w ∧ wpH P ops Q Cs ri (y.ot lops) a w := h
      obtain ⟨hf0, hne, gx⟩ := hx.2 h1 a w hh.1
      obtain ⟨_, _, gy⟩ := hy.2 h2 a w hh.2
      obtain ⟨m, rfl⟩ : ∃ m, fuel = m + 1 := ⟨fuel - 1, by omega⟩
      have hall : ∀ i ∈ Region.ready .any ops listed, i ∈ x.heads ∨ i ∈ y.heads := fun i hi => by
        have := List.all_eq_true.1 hr i hi
        simpa using this
      refine ⟨fun hn => ?_, fun i hi => ?_⟩
      · exact absurd hn hne
      · rcases hall i hi with h' | h'
        · exact gx i h' m rfl
        · exact gy i h' m rfl
    · intro hok a w h
      simp only [IT.ok, Bool.and_eq_true] at hok
      have hh : wpH P ops Q Cs ri (x.ot lops) a w ∧ wpH P ops Q Cs ri (y.ot lops) a w := h
      obtain ⟨hf0, hne, gx⟩ := hx.2 hok.1 a w hh.1
      obtain ⟨_, _, gy⟩ := hy.2 hok.2 a w hh.2
      refine ⟨hf0, hne, fun i hi m hm => ?_⟩
      simp only [IT.heads, List.mem_append] at hi
      rcases hi with h' | h'
      · exact gx i h' m hm
      · exact gy i h' m hm

end
end Go.Proofs.YtbcflfkajkmkdaaDoor.X
namespace Go.Proofs.YtbcflfkajkmkdaaDoor.X
open Go
set_option linter.unusedVariables false
set_option linter.unusedSimpArgs false

abbrev Heap := Array Obj
abbrev Sl := List (Nat × Value)

def look : Sl → Nat → Option Value
  | [], _ => none
  | (j, v) :: r, i => bif Nat.beq j i then some v else look r i

structure Sat (n : Nat) (σ : Sl) (a : Act) : Prop where
  size : a.tmps.size = n
  defers : a.defers = []
  val : ∀ i v, look σ i = some v → a.tmps[i]? = some v

structure Wd (w0 : World) (H : Heap) (w : World) : Prop where
  heap : w.heap = H
  os : w.os = w0.os
  tape : w.tape = w0.tape
  output : w.output = w0.output

theorem Wd.drew {w0 : World} {H : Heap} {w : World} (h : Wd w0 H w) : Wd w0 H { w with drawn := w.drawn + 1 } :=
  ⟨h.heap, h.os, h.tape, h.output⟩

def evo (σ : Sl) : Operand → Option Value
  | .tmp t => look σ t
  | .const v => some v
  | .global g => some (.pointer (some ⟨g, 0, none⟩))
  | .func f => some (.func (.func f) #[] #[])

theorem Sat.getD {n : Nat} {σ : Sl} {a : Act} (h : Sat n σ a) {i : Nat} {v : Value} (hl : look σ i = some v) : a.tmps.getD i undef = v := by
  have := h.val i v hl
  simp [Array.getD_eq_getD_getElem?, this]

theorem Sat.evo {n : Nat} {σ : Sl} {a : Act} (h : Sat n σ a) {x : Operand} {v : Value} (hl : evo σ x = some v) : a.eval x = v := by
  cases x with
  | tmp t => exact h.getD hl
  | const u => exact Option.some.inj hl
  | global g => exact Option.some.inj hl
  | func f => exact Option.some.inj hl

theorem Sat.put {n : Nat} {σ : Sl} {a : Act} (h : Sat n σ a) {d : Nat} (hd : Nat.blt d n = true) (v : Value) : Sat n ((d, v) :: σ) (a.put (some d) v) := by
  have hd' : d < n := by simpa [Nat.blt_eq] using hd
  refine ⟨by simp [Act.put, h.size], by simp [Act.put, h.defers], ?_⟩
  intro i u hu
  simp only [look] at hu
  by_cases hi : d = i
  · subst hi
    simp at hu
    subst hu
    simp [Act.put, h.size, hd']
  · have : Nat.beq d i = false := by
      cases hb : Nat.beq d i with
      | false => rfl
      | true => exact absurd (Nat.eq_of_beq_eq_true hb) hi
    simp only [this, cond_false] at hu
    have := h.val i u hu
    simp [Act.put, hi, this]

theorem Sat.none {n : Nat} {σ : Sl} {a : Act} (h : Sat n σ a) (v : Value) : Sat n σ (a.put none v) := h

/-- weaker knowledge -/
def Sub : Sl → Sl → Prop
  | [], _ => True
  | (j, v) :: r, σ => look σ j = some v ∧ Sub r σ

theorem Sub.look {σ' σ : Sl} (h : Sub σ' σ) : ∀ i v, look σ' i = some v → look σ i = some v := by
  induction σ' with
  | nil => intro i v hv; simp [X.look] at hv
  | cons e r ih =>
    intro i v hv
    obtain ⟨j, u⟩ := e
    simp only [X.look] at hv
    cases hb : Nat.beq j i with
    | true =>
      rw [hb] at hv
      have := Nat.eq_of_beq_eq_true hb
      subst this
      simp at hv
      subst hv
      exact h.1
    | false =>
      rw [hb] at hv
      exact ih h.2 i v hv

theorem Sat.sub {n : Nat} {σ σ' : Sl} {a : Act} (h : Sat n σ a) (hs : Sub σ' σ) : Sat n σ' a := ⟨h.size, h.defers, fun i v hv => h.val i v (hs.look i v hv)⟩

inductive K where
  | done
  | seq (c : Code) (k : K)
  | block (id : Nat) (k : K)
  | round (N : Act → World → Prop) (k : K)

def K.post (P : Program) (B : Exit → Act → World → Prop) : K → Exit → Act → World → Prop
  | .done => B
  | .seq c k => Exit.then (c.wp P (k.post P B)) (k.post P B)
  | .block id k => Exit.inBlock id (k.post P B)
  | .round N k => Exit.then N (k.post P B)

def K.unwind (id : Nat) : K → Option K
  | .done => Option.none
  | .seq _ k => k.unwind id
  | .block id' k => bif Nat.beq id id' then some k else k.unwind id
  | .round _ k => k.unwind id

def CW (P : Program) (n : Nat) (B : Exit → Act → World → Prop) (w0 : World) (c : Code) (k : K) (σ : Sl) (H : Heap) : Prop :=
  ∀ a w, Sat n σ a → Wd w0 H w → c.wp P (k.post P B) a w

def NW (P : Program) (n : Nat) (B : Exit → Act → World → Prop) (w0 : World) (k : K) (σ : Sl) (H : Heap) : Prop :=
  ∀ a w, Sat n σ a → Wd w0 H w → k.post P B .normal a w

/-- an operation that is no defer statement -/
def noDefer (o : Oper) : Prop := match o.op with | .defer _ => False | _ => True
theorem semAt_no {o : Oper} (h : noDefer o) (r : Option Nat) (ρ : Operand → Value) : o.semAt r ρ = execOp ρ o := by
  unfold Oper.semAt
  unfold noDefer at h
  cases r with
  | none => rfl
  | some l =>
    cases ho : o.op
    case defer c => rw [ho] at h; exact h.elim
    all_goals rfl
/-- the fence that lets everything in; within a round of a loop over a function -/
abbrev fenR (r : Option Nat) : Fence := { Fence.wide with round := r }
theorem upon_in {P : Program} {o : Oper} {a : Act} {N : Act → World → Prop} {Q : Exit → Act → World → Prop} {r : Option Nat} {res : Result Next} (h : o.upon P a N Q res) : o.uponIn (fenR r) 0 P a N Q res := by
  cases res with
  | ok x w =>
    cases x with
    | value v => exact h
    | skip => exact h
    | defer d => exact h
    | enter f args =>
      refine ⟨fun h => (by cases h), ?_⟩
      have h1 := (callsIn_wide (n := 0)).2 h
      exact h1
    | row row args =>
      refine ⟨fun h => (by cases h), fun c cs hr => ?_⟩
      obtain ⟨v, w', h1, h2⟩ := h c cs
      exact ⟨v, w', h1, stepsIn_wide.2 h2⟩
    | _ => exact h.elim
  | halt x w =>
    cases x with
    | panic v => exact h
    | _ => exact h.elim
theorem wp_in {P : Program} {o : Oper} {a : Act} {w : World} {N : Act → World → Prop} {Q : Exit → Act → World → Prop} {r : Option Nat} (hn : noDefer o) (h : o.upon P a N Q ((execOp a.eval o).run P w)) : o.wpIn (fenR r) 0 P a w N Q :=
  ⟨fun _ _ => trivial, by rw [semAt_no hn]; exact upon_in h⟩

/-- a call's state without its marks -/
def _root_.Go.Act.bare (a : Act) : Act := { a with defers := [] }
def barePost (ds : List Deferred) (Q : Exit → Act → World → Prop) : Exit → Act → World → Prop
  | .normal, a, w => Q .normal a.bare w ∧ a.defers = ds
  | _, _, _ => False
theorem bare_put (a : Act) (d : Option Nat) (v : Value) : (a.put d v).bare = a.bare.put d v := by cases d <;> rfl
theorem put_defers (a : Act) (d : Option Nat) (v : Value) : (a.put d v).defers = a.defers := by cases d <;> rfl
theorem upon_bare {P : Program} {o : Oper} {a : Act} {N : Act → World → Prop} {Q : Exit → Act → World → Prop} {res : Result Next}
    (h : o.upon P a.bare (fun b w => b.defers = [] ∧ ∀ c, c.bare = b → c.defers = a.defers → N c w) (fun _ _ _ => False) res) : o.upon P a N Q res := by
  cases res with
  | ok x w =>
    cases x with
    | value v => exact h.2 _ (bare_put _ _ _) (put_defers _ _ _)
    | skip => exact h.2 _ (bare_put _ _ _) (put_defers _ _ _)
    | defer d =>
      have h1 := h.1
      rw [put_defers] at h1
      cases h1
    | enter f args =>
      refine h.mono fun e w' he => ?_
      cases e with
      | returned v => exact he.2 _ (bare_put _ _ _) (put_defers _ _ _)
      | panicked c => exact he.elim
      | outgrown => obtain ⟨_, _, he⟩ := he; exact he.elim
    | row row args =>
      intro c cs
      obtain ⟨v, w', h1, h2⟩ := h c cs
      exact ⟨v, w', h1.2 _ (bare_put _ _ _) (put_defers _ _ _), h2⟩
    | _ => exact h.elim
  | halt x w =>
    cases x with
    | panic v => exact h.elim
    | _ => exact h.elim

/-- how a region's operations come up: in the order of the text; in whatever order, none of them turning memory; in whatever order, by a schedule -/
inductive Md where
  | text
  | quiet
  | held (Cs : Nat → Heap → Prop) (ri : RI)
  | fen (r : Option Nat)
  | mrk (ds : List Deferred)

def XW (P : Program) (n : Nat) (B : Exit → Act → World → Prop) (w0 : World) (md : Md) (ops : List Oper) (t : OT) (k : K) (σ : Sl) (H : Heap) : Prop :=
  match md with
  | .text => ∀ a w, Sat n σ a → Wd w0 H w → wpList P ops.toArray (k.post P B) t.toList a w
  | .quiet => ∀ a, Sat n σ a → wpQuiet P ops.toArray (Wd w0 H) (fun a' => ∀ w', Wd w0 H w' → k.post P B .normal a' w') t.toList a
  | .held Cs ri => ∀ a w, Sat n σ a → Wd w0 H w → wpH P ops.toArray (k.post P B) (fun c w => Cs c w.heap) ri t a w
  | .fen r => ∀ a w, Sat n σ a → Wd w0 H w → wpListIn (fenR r) 0 P ops.toArray (k.post P B) t.toList a w
  | .mrk ds => ∀ a w, Sat n σ (a.bare) → a.defers = ds → Wd w0 H w → wpList P ops.toArray (barePost ds (k.post P B)) t.toList a w

section
variable {P : Program} {n : Nat} {B : Exit → Act → World → Prop} {w0 : World} {k : K} {σ : Sl} {H : Heap}

theorem cw_sub {c : Code} (σ' : Sl) (hs : Sub σ' σ) (h : CW P n B w0 c k σ' H) : CW P n B w0 c k σ H := fun a w ha hw => h a w (ha.sub hs) hw
theorem nw_sub (σ' : Sl) (hs : Sub σ' σ) (h : NW P n B w0 k σ' H) : NW P n B w0 k σ H := fun a w ha hw => h a w (ha.sub hs) hw

theorem cw_seq {x y : Code} (h : CW P n B w0 x (.seq y k) σ H) : CW P n B w0 (.seq x y) k σ H := fun a w ha hw => wp_seq (h a w ha hw)
theorem nw_seq {y : Code} (h : CW P n B w0 y k σ H) : NW P n B w0 (.seq y k) σ H := fun a w ha hw => h a w ha hw
theorem cw_skip (h : NW P n B w0 k σ H) : CW P n B w0 .skip k σ H := fun a w ha hw => wp_skip (h a w ha hw)
theorem cw_label {l : Nat} (h : NW P n B w0 k σ H) : CW P n B w0 (.label l) k σ H := fun a w ha hw => wp_label (h a w ha hw)
theorem cw_block {id : Nat} {c : Code} (h : CW P n B w0 c (.block id k) σ H) : CW P n B w0 (.block id c) k σ H := fun a w ha hw => wp_block (h a w ha hw)
theorem nw_block {id : Nat} (h : NW P n B w0 k σ H) : NW P n B w0 (.block id k) σ H := fun a w ha hw => h a w ha hw

theorem unwind_post {id : Nat} {k k' : K} (hu : k.unwind id = some k') {a : Act} {w : World} (h : k'.post P B .normal a w) : k.post P B (.exit id) a w := by
  induction k with
  | done => simp [K.unwind] at hu
  | seq c k ih => exact ih hu
  | round N k ih => exact ih hu
  | block id' k ih =>
    simp only [K.unwind] at hu
    show Exit.inBlock id' (k.post P B) (.exit id) a w
    simp only [Exit.inBlock]
    cases hb : Nat.beq id id' with
    | true =>
      rw [hb] at hu
      have := Nat.eq_of_beq_eq_true hb
      rw [if_pos this]
      simp at hu
      subst hu
      exact h
    | false =>
      rw [hb] at hu
      have : id ≠ id' := fun e => by rw [e, Nat.beq_refl] at hb; cases hb
      rw [if_neg this]
      exact ih hu

theorem cw_exit {id : Nat} {k' : K} (hu : k.unwind id = some k') (h : NW P n B w0 k' σ H) : CW P n B w0 (.exit id) k σ H :=
  fun a w ha hw => wp_exit (unwind_post hu (h a w ha hw))

theorem ret_post {a : Act} {w : World} (h : B .ret a w) : k.post P B .ret a w := by
  induction k with
  | done => exact h
  | seq c k ih => exact ih
  | round N k ih => exact ih
  | block id k ih => exact ih

theorem cw_ret (h : ∀ a w, Sat n σ a → Wd w0 H w → B .ret a w) : CW P n B w0 .ret k σ H :=
  fun a w ha hw => wp_ret (ret_post (h a w ha hw))

theorem cw_cond {c : Operand} {x y : Code} {b : Bool} (hc : evo σ c = some (.bool b)) (ht : b = true → CW P n B w0 x k σ H) (hf : b = false → CW P n B w0 y k σ H) :
    CW P n B w0 (.cond c x y) k σ H :=
  fun a w ha hw => wp_cond_split (ha.evo hc) (fun e => ht e a w ha hw) (fun e => hf e a w ha hw)

theorem cw_true {c : Operand} {x y : Code} (hc : evo σ c = some (.bool true)) (ht : CW P n B w0 x k σ H) : CW P n B w0 (.cond c x y) k σ H :=
  cw_cond hc (fun _ => ht) (fun e => by cases e)
theorem cw_false {c : Operand} {x y : Code} (hc : evo σ c = some (.bool false)) (hf : CW P n B w0 y k σ H) : CW P n B w0 (.cond c x y) k σ H :=
  cw_cond hc (fun e => by cases e) (fun _ => hf)

/-- a loop: ghosts x : α; what is known of the slots (S), of memory (J), a measure -/
def LoopInv (n : Nat) (w0 : World) {α : Type} (S : α → Sl) (J : α → Heap → Prop) (μ : α → Nat) (m : Nat) (a : Act) (w : World) : Prop :=
  ∃ x, Sat n (S x) a ∧ Wd w0 w.heap w ∧ J x w.heap ∧ μ x < m

theorem cw_loop {c : Code} {α : Type} (S : α → Sl) (J : α → Heap → Prop) (μ : α → Nat) (x0 : α) (h0 : Sub (S x0) σ) (hJ : J x0 H)
    (round : ∀ x H, J x H → CW P n B w0 c (.round (LoopInv n w0 S J μ (μ x)) k) (S x) H) : CW P n B w0 (.loop c) k σ H := by
  intro a w ha hw b kk cs
  have key : ∀ m x a w, μ x < m → Sat n (S x) a → Wd w0 w.heap w → J x w.heap →
      ∃ e a' w', k.post P B e a' w' ∧ Arrives P (lone (b.at a (.code c :: .inLoop c :: kk)) cs w) b kk cs e a' w' := by
    intro m
    induction m with
    | zero => intro x a w h; omega
    | succ m ih =>
      intro x a w hm ha hw hj
      obtain ⟨e, a1, w1, hq, harr⟩ := round x w.heap hj a w ha hw b (.inLoop c :: kk) cs
      cases e with
      | normal =>
        obtain ⟨x', hs', hw', hj', hlt⟩ := hq
        obtain ⟨e2, a2, w2, hq2, harr2⟩ := ih x' a1 w1 (by omega) hs' hw' hj'
        exact ⟨e2, a2, w2, hq2, .of_steps (Steps.trans harr (.one step_inLoop)) harr2⟩
      | exit id => exact ⟨_, a1, w1, hq, .pass (x := .inLoop c) rfl (fun _ _ => .inl (by simp)) harr⟩
      | goto l => exact ⟨_, a1, w1, hq, .pass (x := .inLoop c) rfl (fun _ _ => .inl (by simp)) harr⟩
      | ret => exact ⟨_, a1, w1, hq, .pass (x := .inLoop c) rfl (fun _ _ => .inl (by simp)) harr⟩
      | panic ch => exact ⟨_, a1, w1, hq, .pass (x := .inLoop c) rfl (fun _ _ => .inl (by simp)) harr⟩
      | outgrown => exact ⟨_, a1, w1, hq, .pass (x := .inLoop c) rfl (fun _ _ => .inl (by simp)) harr⟩
  obtain ⟨e, a', w', hq, harr⟩ := key _ x0 a w (Nat.lt_succ_self _) (ha.sub h0) ⟨rfl, hw.os, hw.tape, hw.output⟩ (hw.heap ▸ hJ)
  exact ⟨e, a', w', hq, .of_steps (.one step_loop) harr⟩

/-- the round's end: the next ghost -/
theorem nw_round {α : Type} {S : α → Sl} {J : α → Heap → Prop} {μ : α → Nat} {m : Nat} (x : α) (hs : Sub (S x) σ) (hJ : J x H) (hm : μ x < m) :
    NW P n B w0 (.round (LoopInv n w0 S J μ m) k) σ H :=
  fun a w ha hw => ⟨x, ha.sub hs, ⟨rfl, hw.os, hw.tape, hw.output⟩, hw.heap ▸ hJ, hm⟩

/-- a cut: what is known behind a piece of code; several ways meet -/
def CutInv (n : Nat) (w0 : World) {α : Type} (S : α → Sl) (J : α → Heap → Prop) (a : Act) (w : World) : Prop := ∃ x, Sat n (S x) a ∧ Wd w0 w.heap w ∧ J x w.heap

theorem cw_cut {c : Code} {α : Type} (S : α → Sl) (J : α → Heap → Prop) (h : CW P n B w0 c (.round (CutInv n w0 S J) k) σ H)
    (hn : ∀ x H, J x H → NW P n B w0 k (S x) H) : CW P n B w0 c k σ H := by
  intro a w ha hw b kk cs
  obtain ⟨e, a1, w1, hq, harr⟩ := h a w ha hw b kk cs
  refine ⟨e, a1, w1, ?_, harr⟩
  cases e with
  | normal =>
    obtain ⟨x, hs, hw', hj⟩ := hq
    exact hn x _ hj a1 w1 hs hw'
  | _ => exact hq

theorem nw_meet {α : Type} {S : α → Sl} {J : α → Heap → Prop} (x : α) (hs : Sub (S x) σ) (hJ : J x H) : NW P n B w0 (.round (CutInv n w0 S J) k) σ H :=
  fun a w ha hw => ⟨x, ha.sub hs, ⟨rfl, hw.os, hw.tape, hw.output⟩, hw.heap ▸ hJ⟩

end

/-! ### functions -/
/-- the call returns; what it returns and the memory behind it are as Φ says -/
def RetB (w0 : World) (Φ : Value → Heap → Prop) : Ending → World → Prop := fun e w' => ∃ v, e = .returned v ∧ Wd w0 w'.heap w' ∧ Φ v w'.heap
def Ret (P : Program) (f : FuncId) (args : List Value) (H : Heap) (Φ : Value → Heap → Prop) : Prop :=
  ∀ w, w.heap = H → Calls P f args.toArray w (RetB w Φ)

theorem Ret.mono {P : Program} {f : FuncId} {args : List Value} {H : Heap} {Φ Ψ : Value → Heap → Prop} (h : Ret P f args H Φ) (hm : ∀ v H', Φ v H' → Ψ v H') : Ret P f args H Ψ :=
  fun w hw => (h w hw).mono fun e w' ⟨v, he, hw', hp⟩ => ⟨v, he, hw', hm _ _ hp⟩

def num : Nat → List Value → Sl
  | _, [] => []
  | i, v :: r => (i, v) :: num (i + 1) r

theorem num_look (l : List Value) : ∀ (k i : Nat) (v : Value), look (num k l) i = some v → k ≤ i ∧ l[i - k]? = some v := by
  induction l with
  | nil => intro k i v h; simp [num, look] at h
  | cons u r ih =>
    intro k i v h
    simp only [num, look] at h
    cases hb : Nat.beq k i with
    | true =>
      rw [hb] at h
      have := Nat.eq_of_beq_eq_true hb
      subst this
      simp at h ⊢
      exact h
    | false =>
      rw [hb] at h
      obtain ⟨h1, h2⟩ := ih (k + 1) i v h
      refine ⟨by omega, ?_⟩
      obtain ⟨m, rfl⟩ : ∃ m, i = k + 1 + m := ⟨i - (k + 1), by omega⟩
      have e1 : k + 1 + m - k = m + 1 := by omega
      have e2 : k + 1 + m - (k + 1) = m := by omega
      rw [e2] at h2
      rw [e1]
      simpa using h2

theorem ret_of {P : Program} {f : FuncId} {fn : Func} {c : Code} {n : Nat} {args : List Value} {H : Heap} {Φ : Value → Heap → Prop} {σ : Sl}
    (hf : P.funcs[f]? = some fn) (hb : fn.body = some c) (hn : fn.ntmps = n) (hle : Nat.ble args.length n = true) (hσ : num 0 args = σ)
    (h : ∀ w0, CW P n (bodyPost P fn (RetB w0 Φ)) w0 c .done σ H) : Ret P f args H Φ := by
  intro w hw
  refine calls_of_wp hf hb ?_
  have hle' : args.length ≤ n := Nat.le_of_ble_eq_true hle
  refine h w _ w ⟨?_, rfl, ?_⟩ ⟨hw, rfl, rfl, rfl⟩
  · simp [hn]; omega
  · intro i v hv
    rw [← hσ] at hv
    obtain ⟨_, h2⟩ := num_look args 0 i v hv
    simp only [Nat.sub_zero] at h2
    have : i < args.length := (List.getElem?_eq_some_iff.1 h2).1
    simp [Array.getElem?_append, this]
    exact (List.getElem?_eq_some_iff.1 h2).2

section
variable {P : Program} {n : Nat} {w0 : World} {k : K} {σ : Sl} {H : Heap} {fn : Func} {Φ : Value → Heap → Prop}

theorem cw_ret1 {t : Nat} {v : Value} (hr : fn.results = #[.tmp t]) (hl : look σ t = some v) (hΦ : Φ v H) : CW P n (bodyPost P fn (RetB w0 Φ)) w0 .ret k σ H :=
  cw_ret fun a w ha hw => ⟨ha.defers, v, by rw [results_tmp hr, ha.getD hl], ⟨v, rfl, ⟨rfl, hw.os, hw.tape, hw.output⟩, hw.heap ▸ hΦ⟩⟩

theorem cw_ret2 {t u : Nat} {v1 v2 : Value} (hr : fn.results = #[.tmp t, .tmp u]) (h1 : look σ t = some v1) (h2 : look σ u = some v2) (hΦ : Φ (.tuple #[v1, v2]) H) :
    CW P n (bodyPost P fn (RetB w0 Φ)) w0 .ret k σ H :=
  cw_ret fun a w ha hw => ⟨ha.defers, _, by rw [results_tmp2 hr, ha.getD h1, ha.getD h2], ⟨_, rfl, ⟨rfl, hw.os, hw.tape, hw.output⟩, hw.heap ▸ hΦ⟩⟩

theorem cw_ret3 {t u s : Nat} {v1 v2 v3 : Value} (hr : fn.results = #[.tmp t, .tmp u, .tmp s]) (h1 : look σ t = some v1) (h2 : look σ u = some v2) (h3 : look σ s = some v3) (hΦ : Φ (.tuple #[v1, v2, v3]) H) :
    CW P n (bodyPost P fn (RetB w0 Φ)) w0 .ret k σ H :=
  cw_ret fun a w ha hw => ⟨ha.defers, .tuple #[v1, v2, v3], by simp [results, hr, ha.val _ _ h1, ha.val _ _ h2, ha.val _ _ h3], ⟨_, rfl, ⟨rfl, hw.os, hw.tape, hw.output⟩, hw.heap ▸ hΦ⟩⟩

/-- the body's end without a return (no results) -/
theorem nw_end (hr : fn.results = #[]) (hΦ : Φ (.tuple #[]) H) : NW P n (bodyPost P fn (RetB w0 Φ)) w0 .done σ H :=
  fun a w ha hw => ⟨ha.defers, .tuple #[], by rw [results_none hr], ⟨_, rfl, ⟨rfl, hw.os, hw.tape, hw.output⟩, hw.heap ▸ hΦ⟩⟩
theorem cw_ret0 (hr : fn.results = #[]) (hΦ : Φ (.tuple #[]) H) : CW P n (bodyPost P fn (RetB w0 Φ)) w0 .ret k σ H :=
  cw_ret fun a w ha hw => ⟨ha.defers, .tuple #[], by rw [results_none hr], ⟨_, rfl, ⟨rfl, hw.os, hw.tape, hw.output⟩, hw.heap ▸ hΦ⟩⟩
end

/-! ### regions -/
def PanicOk (B : Exit → Act → World → Prop) : Prop := ∀ c a w d v, B (.panic c) (a.put d v) w → B (.panic c) a w
theorem panicOk_body {P : Program} {fn : Func} {R : Ending → World → Prop} : PanicOk (bodyPost P fn R) := by
  intro c a w d v h
  cases d <;> exact h
theorem panicOk_post {P : Program} {B : Exit → Act → World → Prop} (hB : PanicOk B) (k : K) : ∀ c a w d v, k.post P B (.panic c) (a.put d v) w → k.post P B (.panic c) a w := by
  induction k with
  | done => exact hB
  | seq c k ih => exact ih
  | round N k ih => exact ih
  | block id k ih => exact ih

section
variable {P : Program} {n : Nat} {B : Exit → Act → World → Prop} {w0 : World} {md : Md} {ops : List Oper} {rest : OT} {k : K} {σ : Sl} {H : Heap} {i : Nat}

theorem cw_region {id : Nat} {l : List Oper} (h : XW P n B w0 .text l (OT.ofList l) k σ H) : CW P n B w0 (.region id l.toArray false) k σ H :=
  fun a w ha hw => wp_region_lit (by have := h a w ha hw; rwa [OT.toList_ofList] at this)

theorem cw_quiet {id : Nat} {l : List Oper} (hm : P.follows .mixedOrders = true) (hB : Region.lexB .any l.toArray = true) (h : XW P n B w0 .quiet l (OT.ofList l) k σ H) : CW P n B w0 (.region id l.toArray true) k σ H :=
  fun a w ha hw => wp_region_quiet hm hB hw.drew (by have := h a ha; rw [OT.toList_ofList] at this; simpa using this)

theorem cw_held {id : Nat} {l : List Oper} (Cs : Nat → Heap → Prop) (ri : RI) (t : IT) (hB : PanicOk B) (hm : P.follows .mixedOrders = true)
    (hok : (Region.noSelect l.toArray && Nat.ble t.long l.length && IT.ok l.toArray ri false t (Array.replicate l.toArray.size false)) = true)
    (h : XW P n B w0 (.held Cs ri) l (t.ot l) k σ H) : CW P n B w0 (.region id l.toArray true) k σ H := by
  intro a w ha hw
  simp only [Bool.and_eq_true] at hok
  obtain ⟨⟨h1, h2⟩, h3⟩ := hok
  refine wp_region_any hm (wpAny_of_C (Q := k.post P B) (Cs := fun c w => Cs c w.heap) (ri := ri) _ _ _ _ ?_)
  exact (wpAnyC_of_H (Region.noSelect_spec h1) (panicOk_post hB k) l rfl t _ _ (by have := Nat.le_of_ble_eq_true h2; simpa using this)).1 h3 a _ (h a _ ha hw.drew)

theorem x_nil (h : NW P n B w0 k σ H) : XW P n B w0 md ops .nil k σ H := by
  cases md with
  | text => exact fun a w ha hw => wpList_nil (h a w ha hw)
  | quiet => exact fun a ha => wpQuiet_nil fun w' hw' => h a w' ha hw'
  | held Cs ri => exact fun a w ha hw => h a w ha hw
  | fen r => exact fun a w ha hw => wpListIn_nil (h a w ha hw)
  | mrk ds => exact fun a w ha hd hw => wpList_nil ⟨h _ w ha hw, hd⟩

theorem x_alt {s t : OT} {Cs ri} (h1 : XW P n B w0 (.held Cs ri) ops s k σ H) (h2 : XW P n B w0 (.held Cs ri) ops t k σ H) : XW P n B w0 (.held Cs ri) ops (.alt s t) k σ H :=
  fun a w ha hw => ⟨h1 a w ha hw, h2 a w ha hw⟩

theorem x_know (σ' : Sl) (hs : ∀ a, Sat n σ a → Sat n σ' a) (h : XW P n B w0 md ops rest k σ' H) : XW P n B w0 md ops rest k σ H := by
  cases md with
  | text => exact fun a w ha hw => h a w (hs a ha) hw
  | quiet => exact fun a ha => h a (hs a ha)
  | held Cs ri => exact fun a w ha hw => h a w (hs a ha) hw
  | fen r => exact fun a w ha hw => h a w (hs a ha) hw
  | mrk ds => exact fun a w ha hd hw => h a w (hs _ ha) hd hw

theorem x_sub (σ' : Sl) (hs : Sub σ' σ) (h : XW P n B w0 md ops rest k σ' H) : XW P n B w0 md ops rest k σ H := x_know σ' (fun a ha => ha.sub hs) h

/-- is the operation wanted? -/
def gd (ops : List Oper) (σ : Sl) (g : Option (Nat × Bool)) : Option Bool :=
  match g with
  | none => some true
  | some (j, b) =>
    match ops[j]? with
    | none => none
    | some o => match o.dst with
      | none => none
      | some d => match look σ d with
        | some (.bool c) => some (c == b)
        | some (.tuple _) => some false
        | _ => none

theorem gd_wanted {a : Act} (ha : Sat n σ a) {o : Oper} {b : Bool} (h : gd ops σ o.guard = some b) : Region.wanted o (yielded ops.toArray a.tmps) = b := by
  unfold gd at h
  unfold Region.wanted
  split at h
  · rename_i hg
    rw [hg]
    exact Option.some.inj h
  · rename_i j c hg
    rw [hg]
    dsimp only
    split at h
    · cases h
    · rename_i o' ho
      split at h
      · cases h
      · rename_i d hd
        split at h
        · rename_i c' hl
          have hv := ha.val _ _ hl
          have : yielded ops.toArray a.tmps j = some c' := by simp [yielded, ho, hd, hv]
          rw [this]
          cases h
          cases c' <;> cases c <;> rfl
        · rename_i vs hl
          have hv := ha.val _ _ hl
          have : yielded ops.toArray a.tmps j = none := by simp [yielded, ho, hd, hv]
          rw [this]
          cases h
          cases c <;> rfl
        · cases h

/-- in which memory a quiet operation must yield its value -/
def hpm : Md → Nat → Heap → Heap → Prop
  | .held Cs ri, i, _, H' => ∀ c, ri.cls i = some c → Cs c H'
  | _, _, H, H' => H' = H
/-- may a quiet operation stand here? -/
def okq (ops : List Oper) : Md → Nat → Oper → Heap → Prop
  | .held Cs ri, i, o, H => ri.isEff i = false ∧ (∀ c, ri.cls i = some c → Cs c H)
  | .fen _, _, o, _ => noDefer o
  | _, _, _, _ => True

/-- an operation that leaves memory alone and yields a value -/
def Pure (P : Program) (n : Nat) (σ : Sl) (M : Heap → Prop) (o : Oper) (v : Value) : Prop :=
  ∀ a w, M w.heap → Sat n σ a → (execOp a.eval o).run P w = .ok (.value v) w

theorem Sat.putd {a : Act} (ha : Sat n σ a) {o : Oper} {d : Nat} (ho : o.dst = some d) (hd : Nat.blt d n = true) (v : Value) : Sat n ((d, v) :: σ) (a.put o.dst v) := by rw [ho]; exact ha.put hd v

theorem x_pure {o : Oper} {d : Nat} {v : Value} (hk : okq ops md i o H) (hg : gd ops σ o.guard = some true) (ho : o.dst = some d) (hd : Nat.blt d n = true) (hp : Pure P n σ (hpm md i H) o v)
    (h : XW P n B w0 md ops rest k ((d, v) :: σ) H) : XW P n B w0 md ops (.op i o rest) k σ H := by
  cases md with
  | text =>
    intro a w ha hw
    show wpList _ _ _ (o :: rest.toList) a w
    unfold wpList
    rw [if_pos (gd_wanted ha hg)]
    left
    unfold Oper.wp
    rw [hp a w hw.heap ha, Oper.upon_value]
    exact h _ w (ha.putd ho hd v) hw
  | quiet =>
    intro a ha
    show wpQuiet _ _ _ _ (o :: rest.toList) a
    unfold wpQuiet
    rw [if_pos (gd_wanted ha hg)]
    refine ⟨v, fun w hw => ?_, ?_⟩
    · unfold Oper.quietAt
      rw [hp a w hw.heap ha]
      exact ⟨rfl, rfl⟩
    · exact h _ (ha.putd ho hd v)
  | held Cs ri =>
    intro a w ha hw
    unfold wpH
    rw [if_neg (by rw [hk.1]; simp)]
    refine ⟨v, .inl ⟨gd_wanted ha hg, fun w' hw' => ?_⟩, fun c hc => ?_, h _ w (ha.putd ho hd v) hw⟩
    · exact hp a w' hw' ha
    · have := hk.2 c hc; rwa [← hw.heap] at this

  | fen r =>
    intro a w ha hw
    show wpListIn _ _ _ _ _ (o :: rest.toList) a w
    unfold wpListIn
    rw [if_pos (gd_wanted ha hg)]
    refine wp_in hk ?_
    rw [hp a w hw.heap ha, Oper.upon_value]
    exact h _ w (ha.putd ho hd v) hw
  | mrk ds =>
    intro a w ha hds hw
    show wpList _ _ _ (o :: rest.toList) a w
    unfold wpList
    rw [if_pos (show Region.wanted o (yielded ops.toArray a.tmps) = true from gd_wanted ha hg)]
    left
    unfold Oper.wp
    rw [show (execOp a.eval o).run P w = .ok (.value v) w from hp a.bare w hw.heap ha, Oper.upon_value]
    exact h _ w (by rw [bare_put]; exact ha.putd ho hd v) (by rw [put_defers]; exact hds) hw

/-- a guard said no -/
theorem x_skip {o : Oper} {d : Nat} (hk : okq ops md i o H) (hg : gd ops σ o.guard = some false) (ho : o.dst = some d) (hd : Nat.blt d n = true)
    (h : XW P n B w0 md ops rest k ((d, undef) :: σ) H) : XW P n B w0 md ops (.op i o rest) k σ H := by
  cases md with
  | text =>
    intro a w ha hw
    show wpList _ _ _ (o :: rest.toList) a w
    unfold wpList
    rw [if_neg (by rw [gd_wanted ha hg]; simp)]
    exact h _ w (ha.putd ho hd _) hw
  | quiet =>
    intro a ha
    show wpQuiet _ _ _ _ (o :: rest.toList) a
    unfold wpQuiet
    rw [if_neg (by rw [gd_wanted ha hg]; simp)]
    exact h _ (ha.putd ho hd _)
  | held Cs ri =>
    intro a w ha hw
    unfold wpH
    rw [if_neg (by rw [hk.1]; simp)]
    exact ⟨undef, .inr ⟨gd_wanted ha hg, rfl⟩, fun c hc => by have := hk.2 c hc; rwa [← hw.heap] at this, h _ w (ha.putd ho hd _) hw⟩
  | fen r =>
    intro a w ha hw
    show wpListIn _ _ _ _ _ (o :: rest.toList) a w
    unfold wpListIn
    rw [if_neg (by rw [gd_wanted ha hg]; simp)]
    exact ⟨fun _ _ => trivial, h _ w (ha.putd ho hd _) hw⟩
  | mrk ds =>
    intro a w ha hds hw
    show wpList _ _ _ (o :: rest.toList) a w
    unfold wpList
    rw [if_neg (by rw [show Region.wanted o (yielded ops.toArray a.tmps) = false from gd_wanted ha hg]; simp)]
    exact h _ w (by rw [bare_put]; exact ha.putd ho hd _) (by rw [put_defers]; exact hds) hw

theorem sat_as {σ : Sl} (s : Nat) {v u : Value} (hs : look σ s = some v) (e : v = u) (a : Act) (ha : Sat n σ a) : Sat n ((s, u) :: σ) a := by
  subst e
  refine ⟨ha.size, ha.defers, fun i u hv => ?_⟩
  simp only [look] at hv
  cases hb : Nat.beq s i with
  | true =>
    rw [hb] at hv
    have := Nat.eq_of_beq_eq_true hb
    subst this
    simp at hv
    subst hv
    exact ha.val _ _ hs
  | false =>
    rw [hb] at hv
    exact ha.val _ _ hv

/-- a slot's value said otherwise -/
theorem x_as (s : Nat) {v : Value} (u : Value) (hs : look σ s = some v) (e : v = u) (h : XW P n B w0 md ops rest k ((s, u) :: σ) H) : XW P n B w0 md ops rest k σ H :=
  x_know _ (sat_as s hs e) h

/-- two ways by a slot's bool -/
theorem x_split (s : Nat) {b : Bool} (hs : look σ s = some (.bool b)) (ht : b = true → XW P n B w0 md ops rest k ((s, .bool true) :: σ) H)
    (hf : b = false → XW P n B w0 md ops rest k ((s, .bool false) :: σ) H) : XW P n B w0 md ops rest k σ H := by
  cases b with
  | true => exact x_as s _ hs rfl (ht rfl)
  | false => exact x_as s _ hs rfl (hf rfl)
theorem x_true (s : Nat) {b : Bool} (hs : look σ s = some (.bool b)) (hb : b = true) (h : XW P n B w0 md ops rest k ((s, .bool true) :: σ) H) : XW P n B w0 md ops rest k σ H :=
  x_as s _ hs (by rw [hb]) h
theorem x_false (s : Nat) {b : Bool} (hs : look σ s = some (.bool b)) (hb : b = false) (h : XW P n B w0 md ops rest k ((s, .bool false) :: σ) H) : XW P n B w0 md ops rest k σ H :=
  x_as s _ hs (by rw [hb]) h

/-- may an operation that turns memory stand here? -/
def okE (ops : List Oper) : Md → Nat → Oper → Prop
  | .text, _, _ => True
  | .quiet, _, _ => False
  | .held _ ri, i, o => ri.isEff i = true ∧ ops[i]? = some o
  | .fen _, _, o => noDefer o
  | .mrk _, _, _ => True
/-- what it must keep -/
def okm (ops : List Oper) : Md → Nat → Heap → Heap → Prop
  | .held Cs ri, i, H, H' => ∀ c, ri.needs ops.toArray i c = true → Cs c H → Cs c H'
  | _, _, _, _ => True

def putS (d : Option Nat) (v : Value) (σ : Sl) : Sl := match d with | some d => (d, v) :: σ | none => σ
def dstOk (d : Option Nat) (n : Nat) : Bool := match d with | some d => Nat.blt d n | none => true

theorem Sat.putS {a : Act} (ha : Sat n σ a) {d : Option Nat} (hd : dstOk d n = true) (v : Value) : Sat n (putS d v σ) (a.put d v) := by
  cases d with
  | none => exact ha
  | some d => exact ha.put hd v

/-- an operation that yields a value and turns memory, as E says -/
def Eff (P : Program) (n : Nat) (w0 : World) (σ : Sl) (H : Heap) (o : Oper) (E : Value → Heap → Prop) : Prop :=
  ∀ a w, Sat n σ a → Wd w0 H w → ∀ (N : Act → World → Prop) (Q : Exit → Act → World → Prop),
    (∀ v w', Wd w0 w'.heap w' → E v w'.heap → N (a.put o.dst v) w') → o.upon P a N Q ((execOp a.eval o).run P w)

theorem x_eff {o : Oper} {E : Value → Heap → Prop} (he : okE ops md i o) (hg : gd ops σ o.guard = some true) (hd : dstOk o.dst n = true) (hE : Eff P n w0 σ H o E)
    (h : ∀ v H', E v H' → okm ops md i H H' ∧ XW P n B w0 md ops rest k (putS o.dst v σ) H') : XW P n B w0 md ops (.op i o rest) k σ H := by
  cases md with
  | text =>
    intro a w ha hw
    show wpList _ _ _ (o :: rest.toList) a w
    unfold wpList
    rw [if_pos (gd_wanted ha hg)]
    left
    exact hE a w ha hw _ _ (fun v w' hw' hv => (h v _ hv).2 _ w' (ha.putS hd v) hw')
  | quiet => exact he.elim
  | held Cs ri =>
    intro a w ha hw
    unfold wpH
    rw [if_pos he.1]
    have hi' : ops.toArray[i]? = some o := by simpa using he.2
    unfold wpOp
    rw [hi']
    dsimp only
    rw [if_pos (gd_wanted ha hg)]
    left
    refine hE a w ha hw _ _ (fun v w' hw' hv => ?_)
    obtain ⟨h1, h2⟩ := h v _ hv
    refine ⟨fun c hc hC => h1 c hc (by rwa [hw.heap] at hC), h2 _ w' (ha.putS hd v) hw'⟩
  | fen r =>
    intro a w ha hw
    show wpListIn _ _ _ _ _ (o :: rest.toList) a w
    unfold wpListIn
    rw [if_pos (gd_wanted ha hg)]
    exact wp_in he (hE a w ha hw _ _ (fun v w' hw' hv => (h v _ hv).2 _ w' (ha.putS hd v) hw'))
  | mrk ds =>
    intro a w ha hds hw
    show wpList _ _ _ (o :: rest.toList) a w
    unfold wpList
    rw [if_pos (show Region.wanted o (yielded ops.toArray a.tmps) = true from gd_wanted ha hg)]
    left
    refine upon_bare (hE a.bare w ha hw _ _ (fun v w' hw' hv => ⟨by rw [put_defers]; exact ha.defers, fun c hc hcd => (h v _ hv).2 c w' (by rw [hc]; exact ha.putS hd v) (hcd.trans hds) hw'⟩))

/-- an operation that turns memory, and whose guard says no -/
theorem x_skipE {o : Oper} (he : okE ops md i o) (hg : gd ops σ o.guard = some false) (hd : dstOk o.dst n = true)
    (h : XW P n B w0 md ops rest k (putS o.dst undef σ) H) : XW P n B w0 md ops (.op i o rest) k σ H := by
  cases md with
  | text =>
    intro a w ha hw
    show wpList _ _ _ (o :: rest.toList) a w
    unfold wpList
    rw [if_neg (by rw [gd_wanted ha hg]; simp)]
    exact h _ w (ha.putS hd _) hw
  | quiet => exact he.elim
  | held Cs ri =>
    intro a w ha hw
    unfold wpH
    rw [if_pos he.1]
    have hi' : ops.toArray[i]? = some o := by simpa using he.2
    unfold wpOp
    rw [hi']
    dsimp only
    rw [if_neg (by rw [gd_wanted ha hg]; simp)]
    exact ⟨fun c _ hc => hc, h _ w (ha.putS hd _) hw⟩
  | fen r =>
    intro a w ha hw
    show wpListIn _ _ _ _ _ (o :: rest.toList) a w
    unfold wpListIn
    rw [if_neg (by rw [gd_wanted ha hg]; simp)]
    exact ⟨fun _ _ => trivial, h _ w (ha.putS hd _) hw⟩
  | mrk ds =>
    intro a w ha hds hw
    show wpList _ _ _ (o :: rest.toList) a w
    unfold wpList
    rw [if_neg (by rw [show Region.wanted o (yielded ops.toArray a.tmps) = false from gd_wanted ha hg]; simp)]
    exact h _ w (by rw [bare_put]; exact ha.putS hd _) (by rw [put_defers]; exact hds) hw

theorem Eff.pure {o : Oper} {v : Value} (hp : Pure P n σ (fun H' => H' = H) o v) : Eff P n w0 σ H o (fun u H' => u = v ∧ H' = H) := by
  intro a w ha hw N Q h
  rw [hp a w hw.heap ha, Oper.upon_value]
  exact h v w ⟨rfl, hw.os, hw.tape, hw.output⟩ ⟨rfl, hw.heap⟩
end
end Go.Proofs.YtbcflfkajkmkdaaDoor.X
namespace Go.Proofs.YtbcflfkajkmkdaaDoor.X
open Go
set_option linter.unusedVariables false
set_option linter.unusedSimpArgs false

/-! ### types as instances -/
class Ty (P : Program) (t : Nat) (d : outParam TypeDesc) : Prop where
  und : P.underlying t = some d
class Inf (P : Program) (t : Nat) (size bytes : outParam Nat) (zero : outParam Value) : Prop where
  info : (P.info? t).map (fun i => (i.size, i.bytes, i.zero)) = some (size, bytes, some zero)
/-- a struct type's fields: types, offsets, sizes in cells -/
class Stt (P : Program) (t : Nat) (fs : outParam (List (Nat × Nat × Nat))) : Prop where
  str : ∃ F, P.underlying t = some (.struct F) ∧ F.toList.map (fun f => (f.type, f.offset)) = fs.map (fun x => (x.1, x.2.1))
  szs : fs.all (fun x => (P.info? x.1).map (·.size) == some x.2.2) = true
/-- a type whose values are one cell -/
class One (P : Program) (t : Nat) : Prop where
  one : ∃ d, P.underlying t = some d ∧ (∀ F, d ≠ .struct F) ∧ (∀ n e, d ≠ .array n e)
class Fnc (P : Program) (f : Nat) : Prop where
  fnc : ∃ fn, P.funcs[f]? = some fn ∧ (fn.name == "runtime.NumGoroutine") = false ∧ fn.body.isNone = false

theorem Inf.get {P : Program} {t s b : Nat} {z : Value} (h : Inf P t s b z) : ∃ i, P.info? t = some i ∧ i.size = s ∧ i.bytes = b ∧ i.zero = some z := by
  have := h.info
  cases hi : P.info? t with
  | none => rw [hi] at this; simp at this
  | some i =>
    rw [hi] at this
    simp at this
    exact ⟨i, rfl, this.1, this.2.1, this.2.2⟩

section runs
variable {P : Program} {w : World} {t : Nat}
theorem run_und {d : TypeDesc} (h : Ty P t d) : (underlying t).run P w = .ok d w := run_underlying h.und w
theorem run_typeInfo_some {i : TypeInfo} (h : P.info? t = some i) : (typeInfo t).run P w = .ok i w := by simp [typeInfo, h]
theorem run_size {s b : Nat} {z : Value} (h : Inf P t s b z) : (sizeOf t).run P w = .ok s w := by
  obtain ⟨i, hi, rfl, rfl, hz⟩ := h.get
  simp [sizeOf, run_typeInfo_some hi]
theorem run_zero {s b : Nat} {z : Value} (h : Inf P t s b z) : (zeroValue t).run P w = .ok z w := by
  obtain ⟨i, hi, rfl, rfl, hz⟩ := h.get
  simp [zeroValue, run_typeInfo_some hi, hz]
theorem run_isAgg_one (h : One P t) : (isAgg t).run P w = .ok false w := by
  obtain ⟨d, hd, h1, h2⟩ := h.one
  simp only [isAgg, Sem.run_bind, run_underlying hd, Result.andThen_ok]
  cases d <;> first | rfl | exact absurd rfl (h1 _) | exact absurd rfl (h2 _ _)
theorem run_isAgg_stt {fs} (h : Stt P t fs) : (isAgg t).run P w = .ok true w := by
  obtain ⟨F, hd, _⟩ := h.str
  simp [isAgg, run_underlying hd]
end runs

theorem run_equalIn_bool {P : Program} {w : World} {t : Nat} (m : Nat) {a b : Bool} (hT : Ty P t .bool) : (Op.equalIn (m + 1) t (.bool a) (.bool b)).run P w = .ok (a == b) w := by
  simp [Op.equalIn, run_und hT]
theorem run_equal_bool {P : Program} {w : World} {t : Nat} {a b : Bool} (hT : Ty P t .bool) : (Op.equal t (.bool a) (.bool b)).run P w = .ok (a == b) w := run_equalIn_bool 9999 hT
theorem run_equalIn_ptr {P : Program} {w : World} {t e : Nat} (m : Nat) {a : Option Addr} (hT : Ty P t (.pointer e)) : (Op.equalIn (m + 1) t (.pointer a) (.pointer none)).run P w = .ok a.isNone w := by
  cases a <;> simp [Op.equalIn, run_und hT]
theorem run_equal_ptr {P : Program} {w : World} {t e : Nat} {a : Option Addr} (hT : Ty P t (.pointer e)) : (Op.equal t (.pointer a) (.pointer none)).run P w = .ok a.isNone w := run_equalIn_ptr 9999 hT
theorem run_equalIn_slice {P : Program} {w : World} {t e : Nat} (m : Nat) {a : Option Addr} {x y z u : Nat} (hT : Ty P t (.slice e)) : (Op.equalIn (m + 1) t (.slice a x y) (.slice none z u)).run P w = .ok a.isNone w := by
  cases a <;> simp [Op.equalIn, run_und hT]
theorem run_equal_slice {P : Program} {w : World} {t e : Nat} {a : Option Addr} {x y z u : Nat} (hT : Ty P t (.slice e)) : (Op.equal t (.slice a x y) (.slice none z u)).run P w = .ok a.isNone w := run_equalIn_slice 9999 hT

section ops
variable {P : Program} {n : Nat} {B : Exit → Act → World → Prop} {w0 : World} {md : Md} {ops : List Oper} {rest : OT} {k : K} {σ : Sl} {H : Heap} {i : Nat}
variable {d : Nat} {ty : TypeId} {pos : String} {after : Array Edge} {g : Option (Nat × Bool)}

theorem x_move {x : Operand} {v : Value} (hg : gd ops σ g = some true) (hv : evo σ x = some v) (hd : Nat.blt d n = true) (hk : okq ops md i ⟨some d, .move x, ty, pos, after, g⟩ H)
    (h : XW P n B w0 md ops rest k ((d, v) :: σ) H) : XW P n B w0 md ops (.op i ⟨some d, .move x, ty, pos, after, g⟩ rest) k σ H :=
  x_pure hk hg rfl hd (fun a w hM ha => by simp [execOp, ha.evo hv]) h
theorem x_assign {x : Operand} {v : Value} (hg : gd ops σ g = some true) (hv : evo σ x = some v) (hd : Nat.blt d n = true) (hk : okq ops md i ⟨some d, .assign x, ty, pos, after, g⟩ H)
    (h : XW P n B w0 md ops rest k ((d, v) :: σ) H) : XW P n B w0 md ops (.op i ⟨some d, .assign x, ty, pos, after, g⟩ rest) k σ H :=
  x_pure hk hg rfl hd (fun a w hM ha => by simp [execOp, ha.evo hv]) h
theorem x_pick_t {c x y : Operand} {v : Value} (hg : gd ops σ g = some true) (hc : evo σ c = some (.bool true)) (hv : evo σ x = some v) (hd : Nat.blt d n = true) (hk : okq ops md i ⟨some d, .pick c x y, ty, pos, after, g⟩ H)
    (h : XW P n B w0 md ops rest k ((d, v) :: σ) H) : XW P n B w0 md ops (.op i ⟨some d, .pick c x y, ty, pos, after, g⟩ rest) k σ H :=
  x_pure hk hg rfl hd (fun a w hM ha => by simp [execOp, ha.evo hv, ha.evo hc, asBool]) h
theorem x_pick_f {c x y : Operand} {v : Value} (hg : gd ops σ g = some true) (hc : evo σ c = some (.bool false)) (hv : evo σ y = some v) (hd : Nat.blt d n = true) (hk : okq ops md i ⟨some d, .pick c x y, ty, pos, after, g⟩ H)
    (h : XW P n B w0 md ops rest k ((d, v) :: σ) H) : XW P n B w0 md ops (.op i ⟨some d, .pick c x y, ty, pos, after, g⟩ rest) k σ H :=
  x_pure hk hg rfl hd (fun a w hM ha => by simp [execOp, ha.evo hv, ha.evo hc, asBool]) h

/-! #### integers -/
/-- what an operator of two whole numbers of a kind yields -/
def ibin (op : BinOp) (kd : IntKind) (a b : Int) : Option Value :=
  match op with
  | .add => some (.int kd (kd.wrap (a + b)))
  | .sub => some (.int kd (kd.wrap (a - b)))
  | .mul => some (.int kd (kd.wrap (a * b)))
  | .eql => some (.bool (a == b))
  | .neq => some (.bool (a != b))
  | .lss => some (.bool (a < b))
  | .leq => some (.bool (a ≤ b))
  | .gtr => some (.bool (a > b))
  | .geq => some (.bool (a ≥ b))
  | .and => some (.int kd (kd.wrap (BitVec.ofInt kd.bits a &&& BitVec.ofInt kd.bits b).toNat))
  | .or => some (.int kd (kd.wrap (BitVec.ofInt kd.bits a ||| BitVec.ofInt kd.bits b).toNat))
  | .xor => some (.int kd (kd.wrap (BitVec.ofInt kd.bits a ^^^ BitVec.ofInt kd.bits b).toNat))
  | .andNot => some (.int kd (kd.wrap (BitVec.ofInt kd.bits a &&& ~~~(BitVec.ofInt kd.bits b)).toNat))
  | _ => none

theorem run_ibin {P : Program} {op : BinOp} {kd : IntKind} {a b : Int} {v : Value} (h : ibin op kd a b = some v) (t : Nat) (w : World) :
    (binOp op t (.int kd a) (.int kd b)).run P w = .ok v w := by
  cases op <;> simp only [ibin, Option.some.injEq, reduceCtorEq] at h <;> subst h <;> simp [binOp, Op.intArith, Op.intCmp, Op.intBits] <;> rfl

theorem run_eqGuard_int {P : Program} {op : BinOp} {t : Nat} {x y : Operand} {kd kd' : IntKind} {a b : Int} (w : World) : (eqGuard op t x y (.int kd a) (.int kd' b)).run P w = .ok () w := by
  cases op <;> simp [eqGuard]

theorem x_ibin {op : BinOp} {t t' : Nat} {x y : Operand} {kd : IntKind} {a b : Int} {v : Value} (hg : gd ops σ g = some true) (hx : evo σ x = some (.int kd a)) (hy : evo σ y = some (.int kd b)) (hv : ibin op kd a b = some v) (hd : Nat.blt d n = true) (hk : okq ops md i ⟨some d, .binOp op t x y t', ty, pos, after, g⟩ H)
    (h : XW P n B w0 md ops rest k ((d, v) :: σ) H) : XW P n B w0 md ops (.op i ⟨some d, .binOp op t x y t', ty, pos, after, g⟩ rest) k σ H :=
  x_pure hk hg rfl hd (fun A w hM ha => by simp [execOp, ha.evo hx, ha.evo hy, run_eqGuard_int, run_ibin hv]) h
theorem x_add {t t' : Nat} {x y : Operand} {kd : IntKind} {a b : Int} (hg : gd ops σ g = some true) (hx : evo σ x = some (.int kd a)) (hy : evo σ y = some (.int kd b)) (hw : kd.wrap (a + b) = a + b) (hd : Nat.blt d n = true) (hk : okq ops md i ⟨some d, .binOp .add t x y t', ty, pos, after, g⟩ H)
    (h : XW P n B w0 md ops rest k ((d, .int kd (a + b)) :: σ) H) : XW P n B w0 md ops (.op i ⟨some d, .binOp .add t x y t', ty, pos, after, g⟩ rest) k σ H :=
  x_ibin hg hx hy (v := .int kd (a + b)) (by simp [ibin, hw]) hd hk h
theorem x_sub_ {t t' : Nat} {x y : Operand} {kd : IntKind} {a b : Int} (hg : gd ops σ g = some true) (hx : evo σ x = some (.int kd a)) (hy : evo σ y = some (.int kd b)) (hw : kd.wrap (a - b) = a - b) (hd : Nat.blt d n = true) (hk : okq ops md i ⟨some d, .binOp .sub t x y t', ty, pos, after, g⟩ H)
    (h : XW P n B w0 md ops rest k ((d, .int kd (a - b)) :: σ) H) : XW P n B w0 md ops (.op i ⟨some d, .binOp .sub t x y t', ty, pos, after, g⟩ rest) k σ H :=
  x_ibin hg hx hy (v := .int kd (a - b)) (by simp [ibin, hw]) hd hk h
theorem x_mul {t t' : Nat} {x y : Operand} {kd : IntKind} {a b : Int} (hg : gd ops σ g = some true) (hx : evo σ x = some (.int kd a)) (hy : evo σ y = some (.int kd b)) (hw : kd.wrap (a * b) = a * b) (hd : Nat.blt d n = true) (hk : okq ops md i ⟨some d, .binOp .mul t x y t', ty, pos, after, g⟩ H)
    (h : XW P n B w0 md ops rest k ((d, .int kd (a * b)) :: σ) H) : XW P n B w0 md ops (.op i ⟨some d, .binOp .mul t x y t', ty, pos, after, g⟩ rest) k σ H :=
  x_ibin hg hx hy (v := .int kd (a * b)) (by simp [ibin, hw]) hd hk h
theorem x_shl {t t' : Nat} {x y : Operand} {kd ky : IntKind} {a b : Int} (hg : gd ops σ g = some true) (hx : evo σ x = some (.int kd a)) (hy : evo σ y = some (.int ky b)) (h0 : 0 ≤ b) (hd : Nat.blt d n = true) (hk : okq ops md i ⟨some d, .binOp .shl t x y t', ty, pos, after, g⟩ H)
    (h : XW P n B w0 md ops rest k ((d, .int kd (kd.wrap (a * 2 ^ (min b.toNat kd.bits)))) :: σ) H) : XW P n B w0 md ops (.op i ⟨some d, .binOp .shl t x y t', ty, pos, after, g⟩ rest) k σ H :=
  x_pure hk hg rfl hd (fun A w hM ha => by simp [execOp, ha.evo hx, ha.evo hy, run_eqGuard_int, binOp, Op.shift, Int.not_lt.2 h0]) h
theorem x_shr {t t' : Nat} {x y : Operand} {kd ky : IntKind} {a b : Int} (hg : gd ops σ g = some true) (hx : evo σ x = some (.int kd a)) (hy : evo σ y = some (.int ky b)) (h0 : 0 ≤ b) (hd : Nat.blt d n = true) (hk : okq ops md i ⟨some d, .binOp .shr t x y t', ty, pos, after, g⟩ H)
    (h : XW P n B w0 md ops rest k ((d, .int kd (a.fdiv (2 ^ (min b.toNat kd.bits)))) :: σ) H) : XW P n B w0 md ops (.op i ⟨some d, .binOp .shr t x y t', ty, pos, after, g⟩ rest) k σ H :=
  x_pure hk hg rfl hd (fun A w hM ha => by simp [execOp, ha.evo hx, ha.evo hy, run_eqGuard_int, binOp, Op.shift, Int.not_lt.2 h0]) h
theorem x_quo {t t' : Nat} {x y : Operand} {kd : IntKind} {a b : Int} (hg : gd ops σ g = some true) (hx : evo σ x = some (.int kd a)) (hy : evo σ y = some (.int kd b)) (h0 : b ≠ 0) (hd : Nat.blt d n = true) (hk : okq ops md i ⟨some d, .binOp .quo t x y t', ty, pos, after, g⟩ H)
    (h : XW P n B w0 md ops rest k ((d, .int kd (kd.wrap (a.tdiv b))) :: σ) H) : XW P n B w0 md ops (.op i ⟨some d, .binOp .quo t x y t', ty, pos, after, g⟩ rest) k σ H :=
  x_pure hk hg rfl hd (fun A w hM ha => by simp [execOp, ha.evo hx, ha.evo hy, run_eqGuard_int, binOp, Op.intDiv, h0]) h
theorem x_rem {t t' : Nat} {x y : Operand} {kd : IntKind} {a b : Int} (hg : gd ops σ g = some true) (hx : evo σ x = some (.int kd a)) (hy : evo σ y = some (.int kd b)) (h0 : b ≠ 0) (hd : Nat.blt d n = true) (hk : okq ops md i ⟨some d, .binOp .rem t x y t', ty, pos, after, g⟩ H)
    (h : XW P n B w0 md ops rest k ((d, .int kd (a.tmod b)) :: σ) H) : XW P n B w0 md ops (.op i ⟨some d, .binOp .rem t x y t', ty, pos, after, g⟩ rest) k σ H :=
  x_pure hk hg rfl hd (fun A w hM ha => by simp [execOp, ha.evo hx, ha.evo hy, run_eqGuard_int, binOp, Op.intDiv, h0]) h
theorem x_not {t : Nat} {x : Operand} {b : Bool} (hg : gd ops σ g = some true) (hx : evo σ x = some (.bool b)) (hd : Nat.blt d n = true) (hk : okq ops md i ⟨some d, .unOp .not t x, ty, pos, after, g⟩ H)
    (h : XW P n B w0 md ops rest k ((d, .bool (!b)) :: σ) H) : XW P n B w0 md ops (.op i ⟨some d, .unOp .not t x, ty, pos, after, g⟩ rest) k σ H :=
  x_pure hk hg rfl hd (fun a w hM ha => by simp [execOp, ha.evo hx, Op.unary, Op.intArith]) h
theorem x_neg {t : Nat} {x : Operand} {kd : IntKind} {a : Int} (hg : gd ops σ g = some true) (hx : evo σ x = some (.int kd a)) (hd : Nat.blt d n = true) (hk : okq ops md i ⟨some d, .unOp .neg t x, ty, pos, after, g⟩ H)
    (h : XW P n B w0 md ops rest k ((d, .int kd (kd.wrap (-a))) :: σ) H) : XW P n B w0 md ops (.op i ⟨some d, .unOp .neg t x, ty, pos, after, g⟩ rest) k σ H :=
  x_pure hk hg rfl hd (fun A w hM ha => by simp [execOp, ha.evo hx, Op.unary, Op.intArith]) h
theorem x_beq {t t' : Nat} {x y : Operand} {a b : Bool} [hT : Ty P t .bool] (hg : gd ops σ g = some true) (hx : evo σ x = some (.bool a)) (hy : evo σ y = some (.bool b)) (hd : Nat.blt d n = true) (hk : okq ops md i ⟨some d, .binOp .eql t x y t', ty, pos, after, g⟩ H)
    (h : XW P n B w0 md ops rest k ((d, .bool (a == b)) :: σ) H) : XW P n B w0 md ops (.op i ⟨some d, .binOp .eql t x y t', ty, pos, after, g⟩ rest) k σ H :=
  x_pure hk hg rfl hd (fun A w hM ha => by simp [execOp, ha.evo hx, ha.evo hy, eqGuard, binOp, run_equal_bool hT]) h
theorem x_bne {t t' : Nat} {x y : Operand} {a b : Bool} [hT : Ty P t .bool] (hg : gd ops σ g = some true) (hx : evo σ x = some (.bool a)) (hy : evo σ y = some (.bool b)) (hd : Nat.blt d n = true) (hk : okq ops md i ⟨some d, .binOp .neq t x y t', ty, pos, after, g⟩ H)
    (h : XW P n B w0 md ops rest k ((d, .bool (!(a == b))) :: σ) H) : XW P n B w0 md ops (.op i ⟨some d, .binOp .neq t x y t', ty, pos, after, g⟩ rest) k σ H :=
  x_pure hk hg rfl hd (fun A w hM ha => by simp [execOp, ha.evo hx, ha.evo hy, eqGuard, binOp, run_equal_bool hT]) h
theorem x_seql {t t' : Nat} {x y : Operand} {a b : ByteArray} (hg : gd ops σ g = some true) (hx : evo σ x = some (.string a)) (hy : evo σ y = some (.string b)) (hd : Nat.blt d n = true) (hk : okq ops md i ⟨some d, .binOp .eql t x y t', ty, pos, after, g⟩ H)
    (h : XW P n B w0 md ops rest k ((d, .bool (a.toList == b.toList)) :: σ) H) : XW P n B w0 md ops (.op i ⟨some d, .binOp .eql t x y t', ty, pos, after, g⟩ rest) k σ H :=
  x_pure hk hg rfl hd (fun A w hM ha => by simp [execOp, ha.evo hx, ha.evo hy, eqGuard, binOp, Op.stringOp]) h
theorem x_sneq {t t' : Nat} {x y : Operand} {a b : ByteArray} (hg : gd ops σ g = some true) (hx : evo σ x = some (.string a)) (hy : evo σ y = some (.string b)) (hd : Nat.blt d n = true) (hk : okq ops md i ⟨some d, .binOp .neq t x y t', ty, pos, after, g⟩ H)
    (h : XW P n B w0 md ops rest k ((d, .bool (!(a.toList == b.toList))) :: σ) H) : XW P n B w0 md ops (.op i ⟨some d, .binOp .neq t x y t', ty, pos, after, g⟩ rest) k σ H :=
  x_pure hk hg rfl hd (fun A w hM ha => by simp [execOp, ha.evo hx, ha.evo hy, eqGuard, binOp, Op.stringOp]) h
theorem x_slss {t t' : Nat} {x y : Operand} {a b : ByteArray} (hg : gd ops σ g = some true) (hx : evo σ x = some (.string a)) (hy : evo σ y = some (.string b)) (hd : Nat.blt d n = true) (hk : okq ops md i ⟨some d, .binOp .lss t x y t', ty, pos, after, g⟩ H)
    (h : XW P n B w0 md ops rest k ((d, .bool (Op.bytesLess a.toList b.toList)) :: σ) H) : XW P n B w0 md ops (.op i ⟨some d, .binOp .lss t x y t', ty, pos, after, g⟩ rest) k σ H :=
  x_pure hk hg rfl hd (fun A w hM ha => by simp [execOp, ha.evo hx, ha.evo hy, eqGuard, binOp, Op.stringOp]) h
theorem x_sleq {t t' : Nat} {x y : Operand} {a b : ByteArray} (hg : gd ops σ g = some true) (hx : evo σ x = some (.string a)) (hy : evo σ y = some (.string b)) (hd : Nat.blt d n = true) (hk : okq ops md i ⟨some d, .binOp .leq t x y t', ty, pos, after, g⟩ H)
    (h : XW P n B w0 md ops rest k ((d, .bool (Op.bytesLess a.toList b.toList || a.toList == b.toList)) :: σ) H) : XW P n B w0 md ops (.op i ⟨some d, .binOp .leq t x y t', ty, pos, after, g⟩ rest) k σ H :=
  x_pure hk hg rfl hd (fun A w hM ha => by simp [execOp, ha.evo hx, ha.evo hy, eqGuard, binOp, Op.stringOp]) h
theorem x_sgtr {t t' : Nat} {x y : Operand} {a b : ByteArray} (hg : gd ops σ g = some true) (hx : evo σ x = some (.string a)) (hy : evo σ y = some (.string b)) (hd : Nat.blt d n = true) (hk : okq ops md i ⟨some d, .binOp .gtr t x y t', ty, pos, after, g⟩ H)
    (h : XW P n B w0 md ops rest k ((d, .bool (!(Op.bytesLess a.toList b.toList || a.toList == b.toList))) :: σ) H) : XW P n B w0 md ops (.op i ⟨some d, .binOp .gtr t x y t', ty, pos, after, g⟩ rest) k σ H :=
  x_pure hk hg rfl hd (fun A w hM ha => by simp [execOp, ha.evo hx, ha.evo hy, eqGuard, binOp, Op.stringOp]) h
theorem x_sgeq {t t' : Nat} {x y : Operand} {a b : ByteArray} (hg : gd ops σ g = some true) (hx : evo σ x = some (.string a)) (hy : evo σ y = some (.string b)) (hd : Nat.blt d n = true) (hk : okq ops md i ⟨some d, .binOp .geq t x y t', ty, pos, after, g⟩ H)
    (h : XW P n B w0 md ops rest k ((d, .bool (!(Op.bytesLess a.toList b.toList))) :: σ) H) : XW P n B w0 md ops (.op i ⟨some d, .binOp .geq t x y t', ty, pos, after, g⟩ rest) k σ H :=
  x_pure hk hg rfl hd (fun A w hM ha => by simp [execOp, ha.evo hx, ha.evo hy, eqGuard, binOp, Op.stringOp]) h
theorem x_extract {x : Operand} {ix : Nat} {vs : Array Value} {v : Value} (hg : gd ops σ g = some true) (hx : evo σ x = some (.tuple vs)) (hv : vs[ix]? = some v) (hd : Nat.blt d n = true) (hk : okq ops md i ⟨some d, .extract x ix, ty, pos, after, g⟩ H)
    (h : XW P n B w0 md ops rest k ((d, v) :: σ) H) : XW P n B w0 md ops (.op i ⟨some d, .extract x ix, ty, pos, after, g⟩ rest) k σ H :=
  x_pure hk hg rfl hd (fun a w hM ha => by simp [execOp, ha.evo hx, Instr.extract, hv]) h
theorem x_conv_int {s t : Nat} {x : Operand} {ks kt : IntKind} {a : Int} [hS : Ty P s (.int ks)] [hT : Ty P t (.int kt)] (hg : gd ops σ g = some true) (hx : evo σ x = some (.int ks a)) (hd : Nat.blt d n = true) (hk : okq ops md i ⟨some d, .convert s t x, ty, pos, after, g⟩ H)
    (h : XW P n B w0 md ops rest k ((d, .int kt (kt.wrap a)) :: σ) H) : XW P n B w0 md ops (.op i ⟨some d, .convert s t x, ty, pos, after, g⟩ rest) k σ H :=
  x_pure hk hg rfl hd (fun A w hM ha => by simp [execOp, ha.evo hx, convert, run_und hS, run_und hT, Conv.intToInt]) h
theorem x_nilCheck {x : Operand} {a : Addr} (hg : gd ops σ g = some true) (hx : evo σ x = some (.pointer (some a))) (hd : Nat.blt d n = true) (hk : okq ops md i ⟨some d, .nilCheck x, ty, pos, after, g⟩ H)
    (h : XW P n B w0 md ops rest k ((d, .pointer (some a)) :: σ) H) : XW P n B w0 md ops (.op i ⟨some d, .nilCheck x, ty, pos, after, g⟩ rest) k σ H :=
  x_pure hk hg rfl hd (fun A w hM ha => by simp [execOp, ha.evo hx]) h
theorem x_peqn {t t' e : Nat} {x y : Operand} {a : Option Addr} [hT : Ty P t (.pointer e)] (hg : gd ops σ g = some true) (hx : evo σ x = some (.pointer a)) (hy : evo σ y = some (.pointer none)) (hd : Nat.blt d n = true) (hk : okq ops md i ⟨some d, .binOp .eql t x y t', ty, pos, after, g⟩ H)
    (h : XW P n B w0 md ops rest k ((d, .bool a.isNone) :: σ) H) : XW P n B w0 md ops (.op i ⟨some d, .binOp .eql t x y t', ty, pos, after, g⟩ rest) k σ H :=
  x_pure hk hg rfl hd (fun A w hM ha => by cases a <;> simp [execOp, ha.evo hx, ha.evo hy, eqGuard, binOp, run_equal_ptr hT]) h
theorem x_pnen {t t' e : Nat} {x y : Operand} {a : Option Addr} [hT : Ty P t (.pointer e)] (hg : gd ops σ g = some true) (hx : evo σ x = some (.pointer a)) (hy : evo σ y = some (.pointer none)) (hd : Nat.blt d n = true) (hk : okq ops md i ⟨some d, .binOp .neq t x y t', ty, pos, after, g⟩ H)
    (h : XW P n B w0 md ops rest k ((d, .bool (!a.isNone)) :: σ) H) : XW P n B w0 md ops (.op i ⟨some d, .binOp .neq t x y t', ty, pos, after, g⟩ rest) k σ H :=
  x_pure hk hg rfl hd (fun A w hM ha => by cases a <;> simp [execOp, ha.evo hx, ha.evo hy, eqGuard, binOp, run_equal_ptr hT]) h

/-- the builtins min, max of two whole numbers -/
theorem x_max {x y : Operand} {ts : Array TypeId} {kd : IntKind} {a b : Int} (hg : gd ops σ g = some true) (hx : evo σ x = some (.int kd a)) (hy : evo σ y = some (.int kd b)) (hd : Nat.blt d n = true) (hk : okq ops md i ⟨some d, .call ⟨.builtin .max, #[x, y], ts⟩, ty, pos, after, g⟩ H)
    (h : XW P n B w0 md ops rest k ((d, .int kd (max a b)) :: σ) H) : XW P n B w0 md ops (.op i ⟨some d, .call ⟨.builtin .max, #[x, y], ts⟩, ty, pos, after, g⟩ rest) k σ H :=
  x_pure hk hg rfl hd (fun A w hM ha => by
    have e : (if b > a then b else a) = max a b := by split <;> omega
    simp [execOp, resolve, invoke, builtin, Builtin.max_, Builtin.max2, ha.evo hx, ha.evo hy, e]) h
theorem x_min {x y : Operand} {ts : Array TypeId} {kd : IntKind} {a b : Int} (hg : gd ops σ g = some true) (hx : evo σ x = some (.int kd a)) (hy : evo σ y = some (.int kd b)) (hd : Nat.blt d n = true) (hk : okq ops md i ⟨some d, .call ⟨.builtin .min, #[x, y], ts⟩, ty, pos, after, g⟩ H)
    (h : XW P n B w0 md ops rest k ((d, .int kd (min a b)) :: σ) H) : XW P n B w0 md ops (.op i ⟨some d, .call ⟨.builtin .min, #[x, y], ts⟩, ty, pos, after, g⟩ rest) k σ H :=
  x_pure hk hg rfl hd (fun A w hM ha => by
    have e : (if b < a then b else a) = min a b := by split <;> omega
    simp [execOp, resolve, invoke, builtin, Builtin.min_, Builtin.min2, ha.evo hx, ha.evo hy, e]) h
end ops

theorem wrap_i64 {a : Int} (h0 : -9223372036854775808 ≤ a) (h1 : a ≤ 9223372036854775807) : IntKind.i64.wrap a = a := by
  simp [IntKind.wrap, IntKind.signed, IntKind.bits]; omega
theorem wrap_u64 {a : Int} (h0 : 0 ≤ a) (h1 : a < 18446744073709551616) : IntKind.u64.wrap a = a := by
  simp [IntKind.wrap, IntKind.signed, IntKind.bits]; omega
theorem wrap_u32 {a : Int} (h0 : 0 ≤ a) (h1 : a < 4294967296) : IntKind.u32.wrap a = a := by
  simp [IntKind.wrap, IntKind.signed, IntKind.bits]; omega
theorem wrap_u8 {a : Int} (h0 : 0 ≤ a) (h1 : a < 256) : IntKind.u8.wrap a = a := by
  simp [IntKind.wrap, IntKind.signed, IntKind.bits]; omega
theorem wrap_u8_mod (a : Int) : IntKind.u8.wrap a = a % 256 := by
  simp [IntKind.wrap, IntKind.signed, IntKind.bits]
theorem wrap_u64_mod (a : Int) : IntKind.u64.wrap a = a % 18446744073709551616 := by
  simp [IntKind.wrap, IntKind.signed, IntKind.bits]
theorem wrap_u32_mod (a : Int) : IntKind.u32.wrap a = a % 4294967296 := by
  simp [IntKind.wrap, IntKind.signed, IntKind.bits]

/-! ### memory -/
def cel (H : Heap) (b o : Nat) : Option Value :=
  match H[b]? with
  | some (.cells c _ _) => c[o]?
  | _ => none
def frz (H : Heap) (b o : Nat) : Bool :=
  match H[b]? with
  | some (.cells _ _ (lo, hi)) => lo ≤ o && o < hi
  | _ => false
abbrev ptr (b o : Nat) : Value := .pointer (some ⟨b, o, none⟩)

theorem cell_heap (w : World) (b o : Nat) : w.cell? ⟨b, o, none⟩ = cel w.heap b o := by
  unfold World.cell? cel
  dsimp only
  cases w.heap[b]? with
  | none => rfl
  | some o => cases o <;> simp
theorem frozen_heap (w : World) (b o : Nat) : w.frozen? ⟨b, o, none⟩ = frz w.heap b o := rfl
theorem Wd.cell {w0 w : World} {H : Heap} (h : Wd w0 H w) (b o : Nat) : w.cell? ⟨b, o, none⟩ = cel H b o := by
  have e := h.heap
  subst e
  unfold World.cell? cel
  dsimp only
  cases w.heap[b]? with
  | none => rfl
  | some o => cases o <;> simp
theorem Wd.frozen {w0 w : World} {H : Heap} (h : Wd w0 H w) (b o : Nat) : w.frozen? ⟨b, o, none⟩ = frz H b o := by
  have e := h.heap
  subst e
  rfl

theorem addr_add (b o m : Nat) : (⟨b, o, none⟩ : Addr).add m = ⟨b, o + m, none⟩ := by
  unfold Addr.add
  split <;> simp_all

/-- every block but those of S is as it was; none has gone -/
structure Keep (S : Nat → Prop) (H H' : Heap) : Prop where
  size : H.size ≤ H'.size
  blk : ∀ b, b < H.size → ¬ S b → H'[b]? = H[b]?

abbrev Non : Nat → Prop := fun _ => False

theorem Keep.refl (S : Nat → Prop) (H : Heap) : Keep S H H := ⟨Nat.le_refl _, fun _ _ _ => rfl⟩
theorem Keep.trans {S S' : Nat → Prop} {H H' H'' : Heap} (h : Keep S H H') (h' : Keep S' H' H'') : Keep (fun b => S b ∨ (S' b ∧ b < H.size)) H H'' :=
  ⟨Nat.le_trans h.size h'.size, fun b hb hn => by
    rw [h'.blk b (Nat.lt_of_lt_of_le hb h.size) (fun hs => hn (.inr ⟨hs, hb⟩)), h.blk b hb (fun hs => hn (.inl hs))]⟩
theorem Keep.mono {S S' : Nat → Prop} {H H' : Heap} (h : Keep S H H') (hs : ∀ b, b < H.size → S b → S' b) : Keep S' H H' :=
  ⟨h.size, fun b hb hn => h.blk b hb (fun x => hn (hs b hb x))⟩
theorem Keep.step {S S' : Nat → Prop} {H H' H'' : Heap} (h : Keep S H H') (h' : Keep S' H' H'') (hs : ∀ b, b < H.size → S' b → S b) : Keep S H H'' :=
  (h.trans h').mono fun b hb hn => hn.elim id (fun x => hs b hb x.1)

theorem lt_of_blk {H : Heap} {b : Nat} {o : Obj} (h : H[b]? = some o) : b < H.size := (Array.getElem?_eq_some_iff.1 h).1
theorem lt_of_cel {H : Heap} {b o : Nat} {v : Value} (h : cel H b o = some v) : b < H.size := by
  unfold cel at h
  split at h
  · rename_i hb; exact lt_of_blk hb
  · cases h
theorem Keep.get {S : Nat → Prop} {H H' : Heap} (h : Keep S H H') {b : Nat} {o : Obj} (hb : H[b]? = some o) (hn : ¬ S b) : H'[b]? = some o := (h.blk b (lt_of_blk hb) hn).trans hb
theorem Keep.cel {S : Nat → Prop} {H H' : Heap} (h : Keep S H H') {b o : Nat} {v : Value} (hb : cel H b o = some v) (hn : ¬ S b) : X.cel H' b o = some v := by
  have := h.blk b (lt_of_cel hb) hn
  unfold X.cel at hb ⊢
  rw [this]
  exact hb
theorem cel_of_blk {H : Heap} {b : Nat} {cs : Array Value} {T : Nat} {fz : Nat × Nat} (h : H[b]? = some (.cells cs T fz)) (o : Nat) : cel H b o = cs[o]? := by unfold cel; rw [h]

theorem keep_push (H : Heap) (o : Obj) : Keep Non H (H.push o) := ⟨by simp, fun b hb _ => by rw [Array.getElem?_push, if_neg (by omega)]⟩
theorem keep_modify (H : Heap) (b : Nat) (f : Obj → Obj) : Keep (· = b) H (H.modify b f) := ⟨by simp, fun c hc hn => by rw [Array.getElem?_modify, if_neg (fun e => hn e.symm)]⟩

/-! ### slices as values that are not looked into -/
def sb : Value → Nat
  | .slice (some a) _ _ => a.block
  | _ => 0
def so : Value → Nat
  | .slice (some a) _ _ => a.off
  | _ => 0
def sc : Value → Nat
  | .slice _ _ c => c
  | _ => 0

/-- v is a slice of n elements -/
def IsSl (v : Value) (n : Nat) : Prop := ∃ a c, v = .slice a n c ∧ n ≤ c ∧ c ≤ 9223372036854775807 ∧ (c = 0 ∨ ∃ b o, a = some ⟨b, o, none⟩)

theorem isSl_nil : IsSl (.slice none 0 0) 0 := ⟨none, 0, rfl, by omega, by omega, .inl rfl⟩
theorem isSl_some {b o n c : Nat} (h : n ≤ c) (hc : c ≤ 9223372036854775807) : IsSl (.slice (some ⟨b, o, none⟩) n c) n := ⟨_, c, rfl, h, hc, .inr ⟨b, o, rfl⟩⟩
theorem IsSl.cap {v : Value} {n : Nat} (h : IsSl v n) : n ≤ sc v ∧ sc v ≤ 9223372036854775807 := by
  obtain ⟨a, c, rfl, h1, h2, _⟩ := h
  exact ⟨h1, h2⟩
theorem IsSl.form {v : Value} {n : Nat} (h : IsSl v n) (hc : 0 < sc v) : v = .slice (some ⟨sb v, so v, none⟩) n (sc v) := by
  obtain ⟨a, c, rfl, h1, h2, h3 | ⟨b, o, rfl⟩⟩ := h
  · simp [sc, h3] at hc
  · rfl
theorem IsSl.uniq {v : Value} {n m : Nat} (h : IsSl v n) (h' : IsSl v m) : n = m := by
  obtain ⟨a, c, rfl, _⟩ := h
  obtain ⟨a', c', h', _⟩ := h'
  injection h'

/-- u is v[l:] (or v[l:h]), s cells an element -/
structure CutOf (u v : Value) (l s : Nat) : Prop where
  cap : sc u = sc v - l
  at_ : l < sc v → sb u = sb v ∧ so u = so v + l * s

section ops2
variable {P : Program} {n : Nat} {B : Exit → Act → World → Prop} {w0 : World} {md : Md} {ops : List Oper} {rest : OT} {k : K} {σ : Sl} {H : Heap} {i : Nat}
variable {d : Nat} {ty : TypeId} {pos : String} {after : Array Edge} {g : Option (Nat × Bool)}

theorem x_len {t e m : Nat} {x : Operand} {v : Value} [hT : Ty P t (.slice e)] (hg : gd ops σ g = some true) (hx : evo σ x = some v) (hS : IsSl v m) (hd : Nat.blt d n = true) (hk : okq ops md i ⟨some d, .call ⟨.builtin .len, #[x], #[t]⟩, ty, pos, after, g⟩ H)
    (h : XW P n B w0 md ops rest k ((d, .int .i64 m) :: σ) H) : XW P n B w0 md ops (.op i ⟨some d, .call ⟨.builtin .len, #[x], #[t]⟩, ty, pos, after, g⟩ rest) k σ H :=
  x_pure hk hg rfl hd (fun a w hM ha => by
    obtain ⟨ad, c, rfl, _⟩ := hS
    simp [execOp, resolve, invoke, builtin, Builtin.len_, ha.evo hx, run_und hT, goInt]) h
theorem x_len_str {t : Nat} {x : Operand} {s : ByteArray} [hT : Ty P t .string] (hg : gd ops σ g = some true) (hx : evo σ x = some (.string s)) (hd : Nat.blt d n = true) (hk : okq ops md i ⟨some d, .call ⟨.builtin .len, #[x], #[t]⟩, ty, pos, after, g⟩ H)
    (h : XW P n B w0 md ops rest k ((d, .int .i64 s.size) :: σ) H) : XW P n B w0 md ops (.op i ⟨some d, .call ⟨.builtin .len, #[x], #[t]⟩, ty, pos, after, g⟩ rest) k σ H :=
  x_pure hk hg rfl hd (fun a w hM ha => by simp [execOp, resolve, invoke, builtin, Builtin.len_, ha.evo hx, run_und hT, goInt]) h
theorem x_indexAddr {t e m s b : Nat} {z : Value} {x y : Operand} {v : Value} {ki : IntKind} {j : Int} [hT : Ty P t (.slice e)] [hI : Inf P e s b z] (hg : gd ops σ g = some true) (hx : evo σ x = some v) (hy : evo σ y = some (.int ki j)) (hS : IsSl v m) (h0 : 0 ≤ j) (h1 : j < m) (hd : Nat.blt d n = true) (hk : okq ops md i ⟨some d, .indexAddr t x y, ty, pos, after, g⟩ H)
    (h : XW P n B w0 md ops rest k ((d, ptr (sb v) (so v + j.toNat * s)) :: σ) H) : XW P n B w0 md ops (.op i ⟨some d, .indexAddr t x y, ty, pos, after, g⟩ rest) k σ H :=
  x_pure hk hg rfl hd (fun a w hM ha => by
    obtain ⟨ad, c, rfl, h2, h3, h4 | ⟨bb, o, rfl⟩⟩ := hS
    · omega
    · simp [execOp, Instr.indexAt, ha.evo hx, ha.evo hy, asIntOf, run_und hT, h0, h1, run_size hI, addr_add, sb, so]) h

/-- of elements of one cell -/
theorem x_indexAddr1 {t e m b : Nat} {z : Value} {x y : Operand} {v : Value} {ki : IntKind} {j : Int} [hT : Ty P t (.slice e)] [hI : Inf P e 1 b z] (hg : gd ops σ g = some true) (hx : evo σ x = some v) (hy : evo σ y = some (.int ki j))
    (hS : IsSl v m) (h0 : 0 ≤ j) (h1 : j < m) (hd : Nat.blt d n = true) (hk : okq ops md i ⟨some d, .indexAddr t x y, ty, pos, after, g⟩ H)
    (h : XW P n B w0 md ops rest k ((d, ptr (sb v) (so v + j.toNat)) :: σ) H) : XW P n B w0 md ops (.op i ⟨some d, .indexAddr t x y, ty, pos, after, g⟩ rest) k σ H :=
  x_indexAddr hg hx hy hS h0 h1 hd hk (by rw [Nat.mul_one]; exact h)

/-- one cell is read -/
theorem x_load {t b o : Nat} {x : Operand} {v : Value} [hT : One P t] (hg : gd ops σ g = some true) (hx : evo σ x = some (ptr b o)) (hc : ∀ H', hpm md i H H' → cel H' b o = some v) (hd : Nat.blt d n = true) (hk : okq ops md i ⟨some d, .load t x, ty, pos, after, g⟩ H)
    (h : XW P n B w0 md ops rest k ((d, v) :: σ) H) : XW P n B w0 md ops (.op i ⟨some d, .load t x, ty, pos, after, g⟩ rest) k σ H :=
  x_pure hk hg rfl hd (fun a w hM ha => by
    have := hc _ hM
    simp [execOp, Instr.loadAt, Instr.sureAddr, loadVar, ha.evo hx, run_isAgg_one hT, cell_heap, this]) h
end ops2
end Go.Proofs.YtbcflfkajkmkdaaDoor.X
namespace Go.Proofs.YtbcflfkajkmkdaaDoor.X
open Go
set_option linter.unusedVariables false
set_option linter.unusedSimpArgs false

/-! ### rows of cells that may be written -/
def Blk (H : Heap) (b : Nat) (l : List Value) : Prop := ∃ T fz, H[b]? = some (.cells l.toArray T fz) ∧ ∀ o, o < l.length → ¬ (fz.1 ≤ o ∧ o < fz.2)

theorem Blk.lt {H : Heap} {b : Nat} {l : List Value} (h : Blk H b l) : b < H.size := by
  obtain ⟨T, fz, h, _⟩ := h
  exact lt_of_blk h
theorem Blk.cel {H : Heap} {b : Nat} {l : List Value} (h : Blk H b l) (o : Nat) : cel H b o = l[o]? := by
  obtain ⟨T, fz, h, _⟩ := h
  rw [cel_of_blk h]; simp
theorem Blk.frz {H : Heap} {b : Nat} {l : List Value} (h : Blk H b l) {o : Nat} (ho : o < l.length) : frz H b o = false := by
  obtain ⟨T, fz, h, hf⟩ := h
  unfold X.frz
  rw [h]
  have := hf o ho
  simp only [Bool.and_eq_false_iff, decide_eq_false_iff_not]
  omega
theorem Blk.keep {S : Nat → Prop} {H H' : Heap} {b : Nat} {l : List Value} (h : Blk H b l) (k : Keep S H H') (hn : ¬ S b) : Blk H' b l := by
  obtain ⟨T, fz, h, hf⟩ := h
  exact ⟨T, fz, k.get h hn, hf⟩
theorem Blk.uniq {H : Heap} {b : Nat} {l l' : List Value} (h : Blk H b l) (h' : Blk H b l') : l = l' := by
  obtain ⟨T, fz, h, _⟩ := h
  obtain ⟨T', fz', h', _⟩ := h'
  rw [h] at h'
  injection h' with h'
  injection h' with h1 h2 h3
  simpa using congrArg Array.toList h1

/-- what a store of a row of cells makes of a list -/
def putL (l : List Value) (o : Nat) (vs : List Value) : List Value := l.take o ++ vs ++ l.drop (o + vs.length)
theorem putL_length {l : List Value} {o : Nat} {vs : List Value} (h : o + vs.length ≤ l.length) : (putL l o vs).length = l.length := by
  simp [putL]; omega
theorem putL_nil (l : List Value) (o : Nat) : putL l o [] = l := by simp [putL]
theorem putL_cons {l : List Value} {o : Nat} {v : Value} {vs : List Value} (h : o + (vs.length + 1) ≤ l.length) : putL l o (v :: vs) = putL (l.set o v) (o + 1) vs := by
  unfold putL
  have h1 : (l.set o v).take (o + 1) = l.take o ++ [v] := by
    rw [List.take_add_one]
    have : o < l.length := by omega
    simp [this, List.take_set_of_le]
  have h2 : (l.set o v).drop (o + 1 + vs.length) = l.drop (o + (v :: vs).length) := by
    rw [List.drop_set_of_lt (by omega)]
    congr 1
    simp; omega
  rw [h1, h2]
  simp
theorem putL_one {l : List Value} {o : Nat} {v : Value} (h : o < l.length) : putL l o [v] = l.set o v := by
  rw [putL_cons (by simp; omega), putL_nil]
theorem putL_get {l : List Value} {o : Nat} {vs : List Value} (h : o + vs.length ≤ l.length) (i : Nat) : (putL l o vs)[i]? = if i < o then l[i]? else if i < o + vs.length then vs[i - o]? else l[i]? := by
  unfold putL
  by_cases h1 : i < o
  · rw [if_pos h1, List.getElem?_append_left (by simp; omega), List.getElem?_append_left (by simp; omega)]
    rw [List.getElem?_take, if_pos h1]
  · rw [if_neg h1]
    by_cases h2 : i < o + vs.length
    · rw [if_pos h2, List.getElem?_append_left (by simp; omega), List.getElem?_append_right (by simp; omega)]
      congr 1
      simp; omega
    · rw [if_neg h2, List.getElem?_append_right (by simp; omega), List.getElem?_drop]
      congr 1
      simp; omega

/-- memory with one row's cells set -/
def setB (H : Heap) (b : Nat) (l : List Value) : Heap := H.modify b fun
  | .cells _ e f => .cells l.toArray e f
  | o => o

theorem setB_blk {H : Heap} {b : Nat} {l l' : List Value} (h : Blk H b l) (hl : l'.length = l.length) : Blk (setB H b l') b l' := by
  obtain ⟨T, fz, h, hf⟩ := h
  refine ⟨T, fz, ?_, fun o ho => hf o (by omega)⟩
  simp [setB, Array.getElem?_modify, h]
theorem setB_keep (H : Heap) (b : Nat) (l : List Value) : Keep (· = b) H (setB H b l) := keep_modify H b _
theorem setB_size (H : Heap) (b : Nat) (l : List Value) : (setB H b l).size = H.size := by simp [setB]
theorem setB_same {H : Heap} {b : Nat} {l : List Value} (h : Blk H b l) : setB H b l = H := by
  obtain ⟨T, fz, h, hf⟩ := h
  apply Array.ext_getElem?
  intro i
  simp only [setB, Array.getElem?_modify]
  split
  · rename_i hi
    subst hi
    simp [h]
  · rfl
theorem setB_setB (H : Heap) (b : Nat) (l l' : List Value) : setB (setB H b l) b l' = setB H b l' := by
  apply Array.ext_getElem?
  intro i
  simp only [setB, Array.getElem?_modify]
  split
  · cases H[i]? with
    | none => rfl
    | some o => cases o <;> rfl
  · rfl

theorem setCell_setB {w : World} {b o : Nat} {v : Value} {l : List Value} (h : Blk w.heap b l) : (w.setCell ⟨b, o, none⟩ v).heap = setB w.heap b (l.set o v) := by
  obtain ⟨T, fz, h, hf⟩ := h
  apply Array.ext_getElem?
  intro i
  simp only [setB, World.setCell, Array.getElem?_modify]
  split
  · rename_i hi
    subst hi
    simp [h]
  · rfl

def oneC (v : Value) : Bool := v.oneCell'

/-- a row of cells is stored -/
theorem run_storeCells {P : Program} {w0 : World} (vs : List Value) : ∀ (w : World) (b o j : Nat) (l : List Value), Wd w0 w.heap w → Blk w.heap b l → o + j + vs.length ≤ l.length → (∀ v ∈ vs, oneC v = true) →
    ∃ w', (storeCells ⟨b, o, none⟩ vs j).run P w = .ok () w' ∧ Wd w0 (setB w.heap b (putL l (o + j) vs)) w' := by
  induction vs with
  | nil =>
    intro w b o j l hw hb _ _
    refine ⟨w, by simp [storeCells], ?_⟩
    rw [putL_nil, setB_same hb]
    exact hw
  | cons v vs ih =>
    intro w b o j l hw hb hl hv
    simp only [List.length_cons] at hl
    have hc : w.cell? ⟨b, o + j, none⟩ = some (l[o + j]'(by omega)) := by
      rw [cell_heap, hb.cel]
      simp
    have hf : w.frozen? ⟨b, o + j, none⟩ = false := by rw [frozen_heap]; exact hb.frz (by omega)
    have hstore : (store (⟨b, o + j, none⟩ : Addr) v).run P w = .ok () (w.setCell ⟨b, o + j, none⟩ v) := by
      rw [run_store P w _ v _ (hv v (by simp)), hc]
      simp [hf]
    have hset := setCell_setB (w := w) (o := o + j) (v := v) hb
    have hw' : Wd w0 (w.setCell ⟨b, o + j, none⟩ v).heap (w.setCell ⟨b, o + j, none⟩ v) := ⟨rfl, hw.os, hw.tape, hw.output⟩
    have hb' : Blk (w.setCell ⟨b, o + j, none⟩ v).heap b (l.set (o + j) v) := by rw [hset]; exact setB_blk hb (by simp)
    obtain ⟨w', hrun, hwd⟩ := ih _ b o (j + 1) _ hw' hb' (by simp; omega) (fun u hu => hv u (by simp [hu]))
    refine ⟨w', ?_, ?_⟩
    · simp only [storeCells, Sem.run_bind, addr_add, hstore, Result.andThen_ok]
      exact hrun
    · rw [hset, setB_setB] at hwd
      rw [putL_cons (by omega)]
      exact hwd

/-- a row of cells is read -/
def Cels (H : Heap) (b o : Nat) (cs : List Value) : Prop := ∀ j (h : j < cs.length), cel H b (o + j) = some cs[j]

theorem run_loadCellsFrom {P : Program} (m : Nat) : ∀ (w : World) (b o j : Nat) (cs : List Value) (acc : Array Value), Cels w.heap b (o + j) cs → cs.length = m →
    (loadCellsFrom ⟨b, o, none⟩ j m acc).run P w = .ok (acc ++ cs.toArray) w := by
  induction m with
  | zero =>
    intro w b o j cs acc _ hl
    have : cs = [] := by simpa using hl
    subst this
    simp [loadCellsFrom]
  | succ m ih =>
    intro w b o j cs acc hc hl
    cases cs with
    | nil => simp at hl
    | cons v cs =>
      have h0 := hc 0 (by simp)
      simp only [Nat.add_zero, List.getElem_cons_zero] at h0
      have hload : (load (⟨b, o + j, none⟩ : Addr)).run P w = .ok v w := by
        rw [run_load, cell_heap, h0]
      simp only [loadCellsFrom, Sem.run_bind, addr_add, hload, Result.andThen_ok]
      rw [ih w b o (j + 1) cs (acc.push v) (fun i hi => by
        have := hc (i + 1) (by simpa using hi)
        simp only [List.getElem_cons_succ] at this
        rw [show o + (j + 1) + i = o + j + (i + 1) by omega]
        exact this) (by simpa using hl)]
      simp

theorem run_loadCells {P : Program} {w : World} {b o : Nat} {cs : List Value} (h : Cels w.heap b o cs) : (loadCells ⟨b, o, none⟩ cs.length).run P w = .ok cs.toArray w := by
  have := run_loadCellsFrom (P := P) cs.length w b o 0 cs #[] (by simpa using h) rfl
  simpa [loadCells] using this

theorem Blk.cels {H : Heap} {b : Nat} {l : List Value} (h : Blk H b l) (o m : Nat) (hm : o + m ≤ l.length) : Cels H b o ((l.drop o).take m) := by
  intro j hj
  simp at hj
  rw [h.cel]
  simp
theorem Cels.keep {S : Nat → Prop} {H H' : Heap} {b o : Nat} {cs : List Value} (h : Cels H b o cs) (k : Keep S H H') (hn : cs ≠ [] → ¬ S b) : Cels H' b o cs :=
  fun j hj => k.cel (h j hj) (hn (by intro e; subst e; simp at hj))
theorem Cels.nil (H : Heap) (b o : Nat) : Cels H b o [] := fun j hj => by simp at hj
theorem Cels.append {H : Heap} {b o : Nat} {cs ds : List Value} (h : Cels H b o cs) (h' : Cels H b (o + cs.length) ds) : Cels H b o (cs ++ ds) := by
  intro j hj
  by_cases hlt : j < cs.length
  · rw [List.getElem_append_left hlt]; exact h j hlt
  · rw [List.getElem_append_right (by omega)]
    have := h' (j - cs.length) (by simp at hj; omega)
    rw [← this]
    congr 1
    omega
theorem Cels.take {H : Heap} {b o : Nat} {cs : List Value} (h : Cels H b o cs) (m : Nat) : Cels H b o (cs.take m) := fun j hj => by
  simp at hj
  rw [List.getElem_take]
  exact h j (by omega)
theorem Cels.drop {H : Heap} {b o : Nat} {cs : List Value} (h : Cels H b o cs) (m : Nat) : Cels H b (o + m) (cs.drop m) := fun j hj => by
  simp at hj
  rw [List.getElem_drop, Nat.add_assoc]
  exact h (m + j) (by omega)
end Go.Proofs.YtbcflfkajkmkdaaDoor.X
namespace Go.Proofs.YtbcflfkajkmkdaaDoor.X
open Go
set_option linter.unusedVariables false
set_option linter.unusedSimpArgs false

theorem IsSl.oneC {v : Value} {n : Nat} (h : IsSl v n) : oneC v = true := by
  obtain ⟨a, c, rfl, _⟩ := h
  rfl
theorem oneC_cells {v : Value} (h : oneC v = true) : v.cells = #[v] := by
  cases v <;> first | rfl | (simp [oneC, Value.oneCell'] at h)

section structs
variable {P : Program} {w : World} {t : Nat}
theorem Stt.sizes {fs : List (Nat × Nat × Nat)} (h : Stt P t fs) : ∀ x ∈ fs, ∃ i, P.info? x.1 = some i ∧ i.size = x.2.2 := fun x hx => by
  have := List.all_eq_true.1 h.szs x hx
  cases hi : P.info? x.1 with
  | none => rw [hi] at this; simp at this
  | some i => rw [hi] at this; exact ⟨i, rfl, by simpa using this⟩
theorem Stt.get {fs : List (Nat × Nat × Nat)} (h : Stt P t fs) : ∃ F : Array Field, P.underlying t = some (.struct F) ∧ F.size = fs.length ∧
    ∀ (f : Nat) x, fs[f]? = some x → ∃ fd : Field, F[f]? = some fd ∧ fd.type = x.1 ∧ fd.offset = x.2.1 ∧ ∃ i, P.info? x.1 = some i ∧ i.size = x.2.2 := by
  obtain ⟨F, hu, hm⟩ := h.str
  have hi := h.sizes
  have hl : F.toList.length = fs.length := by simpa using congrArg List.length hm
  refine ⟨F, hu, by simpa using hl, fun f x hx => ?_⟩
  have hlt : f < fs.length := (List.getElem?_eq_some_iff.1 hx).1
  have hlt' : f < F.toList.length := by omega
  have h1 := congrArg (fun l => l[f]?) hm
  simp only [List.getElem?_map, hx, Option.map_some] at h1
  have h2 : F.toList[f]? = some F.toList[f] := List.getElem?_eq_getElem hlt'
  rw [h2] at h1
  simp only [Option.map_some, Option.some.injEq, Prod.mk.injEq] at h1
  refine ⟨F.toList[f], by simp, h1.1, h1.2, hi x (List.mem_of_getElem? hx)⟩

theorem run_places {P : Program} {w : World} (fs : List (Nat × Nat × Nat)) : ∀ (F : List Field), F.map (fun f => (f.type, f.offset)) = fs.map (fun x => (x.1, x.2.1)) → (∀ x ∈ fs, ∃ i, P.info? x.1 = some i ∧ i.size = x.2.2) →
    (F.mapM fun f => (do pure (f.offset, ← sizeOf f.type) : Sem (Nat × Nat))).run P w = .ok (fs.map fun x => (x.2.1, x.2.2)) w := by
  induction fs with
  | nil =>
    intro F h _
    have : F = [] := by simpa using h
    subst this
    simp
  | cons x fs ih =>
    intro F h hi
    cases F with
    | nil => simp at h
    | cons f F =>
      simp only [List.map_cons, List.cons.injEq, Prod.mk.injEq] at h
      obtain ⟨⟨h1, h2⟩, h3⟩ := h
      obtain ⟨i, hi1, hi2⟩ := hi x (by simp)
      have hih := ih F h3 (fun y hy => hi y (by simp [hy]))
      have hs : (sizeOf f.type).run P w = .ok x.2.2 w := by
        rw [h1]; simp [sizeOf, run_typeInfo_some hi1, hi2]
      simp only [List.mapM_cons, Sem.run_bind, hs, Result.andThen_ok, Sem.run_pure, h2]
      rw [hih]
      simp
end structs

/-- a struct's cells with some fields set (each of one cell) -/
def bfill (fs : List (Nat × Nat × Nat)) : List Value → List (Nat × Value) → Option (List Value)
  | cs, [] => some cs
  | cs, (f, v) :: r => match fs[f]? with
    | some (_, off, 1) => if off < cs.length then bfill fs (cs.set off v) r else none
    | _ => none

theorem fill_bfill (fs : List (Nat × Nat × Nat)) : ∀ (parts : List (Nat × Value)) (cs out : List Value), bfill fs cs parts = some out → (∀ x ∈ parts, oneC x.2 = true) →
    Instr.fill ((fs.map fun x => (x.2.1, x.2.2)).toArray[·]?) cs.toArray parts = some out.toArray := by
  intro parts
  induction parts with
  | nil =>
    intro cs out h _
    simp only [bfill, Option.some.injEq] at h
    subst h
    rfl
  | cons x parts ih =>
    intro cs out h ho
    obtain ⟨f, v⟩ := x
    simp only [bfill] at h
    split at h
    · rename_i t off hf
      split at h
      · rename_i hlt
        have hv := oneC_cells (ho (f, v) (by simp))
        simp only at hv
        unfold Instr.fill
        have hp : (fs.map fun x => (x.2.1, x.2.2)).toArray[f]? = some (off, 1) := by simp [hf]
        simp only [hp, hv]
        rw [if_neg (by simp; omega)]
        have := ih _ _ h (fun y hy => ho y (by simp [hy]))
        have he : ((#[v] : Array Value).zipIdx.foldl (fun cs (c, j) => cs.setIfInBounds (off + j) c) cs.toArray) = (cs.set off v).toArray := by
          simp
        rw [he]
        exact this
      · cases h
    · cases h

def evs (σ : Sl) : List Operand → Option (List Value)
  | [] => some []
  | x :: r => match evo σ x, evs σ r with
    | some v, some vs => some (v :: vs)
    | _, _ => none
def evp (σ : Sl) : List (Nat × Operand) → Option (List (Nat × Value))
  | [] => some []
  | (f, x) :: r => match evo σ x, evp σ r with
    | some v, some vs => some ((f, v) :: vs)
    | _, _ => none

theorem Sat.evs {n : Nat} {σ : Sl} {a : Act} (ha : Sat n σ a) : ∀ (xs : List Operand) (vs : List Value), evs σ xs = some vs → xs.map a.eval = vs := by
  intro xs
  induction xs with
  | nil => intro vs h; simp [X.evs] at h; subst h; rfl
  | cons x r ih =>
    intro vs h
    simp only [X.evs] at h
    split at h
    · rename_i v us h1 h2
      simp only [Option.some.injEq] at h
      subst h
      simp [ha.evo h1, ih us h2]
    · cases h
theorem Sat.evp {n : Nat} {σ : Sl} {a : Act} (ha : Sat n σ a) : ∀ (xs : List (Nat × Operand)) (vs : List (Nat × Value)), evp σ xs = some vs → xs.map (fun x => (x.1, a.eval x.2)) = vs := by
  intro xs
  induction xs with
  | nil => intro vs h; simp [X.evp] at h; subst h; rfl
  | cons x r ih =>
    intro vs h
    obtain ⟨f, x⟩ := x
    simp only [X.evp] at h
    split at h
    · rename_i v us h1 h2
      simp only [Option.some.injEq] at h
      subst h
      simp [ha.evo h1, ih us h2]
    · cases h

section ops
variable {P : Program} {n : Nat} {B : Exit → Act → World → Prop} {w0 : World} {md : Md} {ops : List Oper} {rest : OT} {k : K} {σ : Sl} {H : Heap} {i : Nat}
variable {d : Nat} {ty : TypeId} {pos : String} {after : Array Edge} {g : Option (Nat × Bool)}

theorem x_fieldAddr {t f b o : Nat} {x : Operand} {fs : List (Nat × Nat × Nat)} {ft off sz : Nat} [hT : Stt P t fs] (hg : gd ops σ g = some true) (hx : evo σ x = some (ptr b o)) (hf : fs[f]? = some (ft, off, sz + 1)) (hd : Nat.blt d n = true) (hk : okq ops md i ⟨some d, .fieldAddr t x f, ty, pos, after, g⟩ H)
    (h : XW P n B w0 md ops rest k ((d, ptr b (o + off)) :: σ) H) : XW P n B w0 md ops (.op i ⟨some d, .fieldAddr t x f, ty, pos, after, g⟩ rest) k σ H :=
  x_pure hk hg rfl hd (fun A w hM ha => by
    obtain ⟨F, hu, hl, hF⟩ := hT.get
    obtain ⟨fd, h1, h2, h3, inf, h4, h5⟩ := hF f _ hf
    simp only at h2 h3 h4 h5
    have hs : (sizeOf fd.type).run P w = .ok (sz + 1) w := by rw [h2]; simp [sizeOf, run_typeInfo_some h4, h5]
    simp [execOp, Instr.fieldAt, Instr.sureAddr, ha.evo hx, run_underlying hu, h1, fieldPlace, hs, addr_add, h3]) h

/-- a struct is read -/
theorem x_loads {t b o s bb : Nat} {z : Value} {x : Operand} {cs : List Value} {fs : List (Nat × Nat × Nat)} [hT : Stt P t fs] [hI : Inf P t s bb z] (hg : gd ops σ g = some true) (hx : evo σ x = some (ptr b o)) (hl : cs.length = s) (hc : ∀ H', hpm md i H H' → Cels H' b o cs) (hd : Nat.blt d n = true) (hk : okq ops md i ⟨some d, .load t x, ty, pos, after, g⟩ H)
    (h : XW P n B w0 md ops rest k ((d, .agg cs.toArray) :: σ) H) : XW P n B w0 md ops (.op i ⟨some d, .load t x, ty, pos, after, g⟩ rest) k σ H :=
  x_pure hk hg rfl hd (fun A w hM ha => by
    have := run_loadCells (P := P) (hc _ hM)
    rw [hl] at this
    simp [execOp, Instr.loadAt, Instr.sureAddr, loadVar, ha.evo hx, run_isAgg_stt hT, run_size hI, this]) h

theorem x_field {t f : Nat} {x : Operand} {cs : List Value} {v : Value} {fs : List (Nat × Nat × Nat)} {ft off sz : Nat} [hT : Stt P t fs] (hg : gd ops σ g = some true) (hx : evo σ x = some (.agg cs.toArray)) (hf : fs[f]? = some (ft, off, sz)) (hO : One P ft) (hv : cs[off]? = some v) (hd : Nat.blt d n = true) (hk : okq ops md i ⟨some d, .field t x f, ty, pos, after, g⟩ H)
    (h : XW P n B w0 md ops rest k ((d, v) :: σ) H) : XW P n B w0 md ops (.op i ⟨some d, .field t x f, ty, pos, after, g⟩ rest) k σ H :=
  x_pure hk hg rfl hd (fun A w hM ha => by
    obtain ⟨F, hu, hl, hF⟩ := hT.get
    obtain ⟨fd, h1, h2, h3, inf, h4, h5⟩ := hF f _ hf
    simp only at h2 h3 h4 h5
    have hA : (isAgg fd.type).run P w = .ok false w := by rw [h2]; exact run_isAgg_one hO
    simp [execOp, Instr.field, ha.evo hx, run_underlying hu, h1, asAgg, part, hA, h3, hv]) h

theorem x_build {t s bb : Nat} {zs : List Value} {parts : List (Nat × Operand)} {ps : List (Nat × Value)} {cs : List Value} {fs : List (Nat × Nat × Nat)} [hT : Stt P t fs] [hI : Inf P t s bb (.agg zs.toArray)] (hg : gd ops σ g = some true) (hx : evp σ parts = some ps) (hf : bfill fs zs ps = some cs) (hO : ∀ x ∈ ps, oneC x.2 = true) (hd : Nat.blt d n = true) (hk : okq ops md i ⟨some d, .build t parts.toArray, ty, pos, after, g⟩ H)
    (h : XW P n B w0 md ops rest k ((d, .agg cs.toArray) :: σ) H) : XW P n B w0 md ops (.op i ⟨some d, .build t parts.toArray, ty, pos, after, g⟩ rest) k σ H :=
  x_pure hk hg rfl hd (fun A w hM ha => by
    obtain ⟨F, hu, hm⟩ := hT.str
    have hi := hT.sizes
    have hp := run_places (P := P) (w := w) fs F.toList hm hi
    have hF : (F.mapM fun f => (do pure (f.offset, ← sizeOf f.type) : Sem (Nat × Nat))).run P w = .ok (fs.map fun x => (x.2.1, x.2.2)).toArray w := by
      rw [Array.mapM_eq_mapM_toList, Sem.run_map, hp]
      rfl
    have hfl := fill_bfill fs ps zs cs hf hO
    have hev : (parts.toArray.map fun (i, x) => (i, A.eval x)).toList = ps := by
      simp only [List.map_toArray]
      exact ha.evp _ _ hx
    simp only [execOp, Instr.build, Sem.run_bind, run_zero hI, Result.andThen_ok, run_underlying hu, hF, hev]
    simp only [Value.cells, hfl, Sem.run_pure, Result.andThen_ok]) h

/-! #### slicing -/
def cutV (a : Option Addr) (c l h s : Nat) : Value := .slice (if c = l then a else a.map (·.add (l * s))) (h - l) (c - l)
theorem cut_facts {v : Value} {m l h s : Nat} (hS : IsSl v m) (h1 : l ≤ h) (h2 : h ≤ sc v) :
    ∃ a c, v = .slice a m c ∧ sc v = c ∧ IsSl (cutV a c l h s) (h - l) ∧ CutOf (cutV a c l h s) v l s := by
  obtain ⟨a, c, rfl, h3, h4, h5⟩ := hS
  have h2 : h ≤ c := h2
  refine ⟨a, c, rfl, rfl, ?_, ?_⟩
  · rcases h5 with rfl | ⟨b, o, rfl⟩
    · exact ⟨_, _, rfl, by omega, by omega, .inl (by omega)⟩
    · refine ⟨_, _, rfl, by omega, by omega, .inr ?_⟩
      by_cases hl : c = l
      · rw [if_pos hl]; exact ⟨b, o, rfl⟩
      · rw [if_neg hl]; exact ⟨b, o + l * s, by simp [addr_add]⟩
  · refine ⟨rfl, fun hlt => ?_⟩
    have hlt : l < c := hlt
    rcases h5 with rfl | ⟨b, o, rfl⟩
    · omega
    · unfold cutV
      rw [if_neg (by omega)]
      simp [sb, so, addr_add]

theorem run_slice_lh' {P : Program} {w : World} {t e s bb : Nat} {z : Value} (hT : Ty P t (.slice e)) (hI : Inf P e s bb z) (a : Option Addr) (m c : Nat) (kl kh : IntKind) (l h : Int) (h0 : 0 ≤ l) (h1 : l ≤ h) (h2 : h ≤ c) :
    (Instr.slice t (.slice a m c) (some (.int kl l)) (some (.int kh h)) none).run P w = .ok (cutV a c l.toNat h.toNat s) w := by
  obtain ⟨l, rfl⟩ := Int.eq_ofNat_of_zero_le h0
  obtain ⟨h, rfl⟩ := Int.eq_ofNat_of_zero_le (Int.le_trans h0 h1)
  have e1 : l ≤ h := by omega
  have e2 : h ≤ c := by omega
  simp [Instr.slice, run_und hT, Instr.sliceBounds, Instr.sliceBound, asIntOf, e1, e2, run_size hI, cutV]
theorem run_slice_h' {P : Program} {w : World} {t e s bb : Nat} {z : Value} (hT : Ty P t (.slice e)) (hI : Inf P e s bb z) (a : Option Addr) (m c : Nat) (kh : IntKind) (h : Int) (h1 : 0 ≤ h) (h2 : h ≤ c) :
    (Instr.slice t (.slice a m c) none (some (.int kh h)) none).run P w = .ok (cutV a c 0 h.toNat s) w := by
  simp [Instr.slice, run_und hT, Instr.sliceBounds, Instr.sliceBound, asIntOf, h1, h2, run_size hI, cutV]
theorem run_slice_l' {P : Program} {w : World} {t e s bb : Nat} {z : Value} (hT : Ty P t (.slice e)) (hI : Inf P e s bb z) (a : Option Addr) (m c : Nat) (kl : IntKind) (l : Int) (h0 : 0 ≤ l) (h1 : l ≤ m) :
    (Instr.slice t (.slice a m c) (some (.int kl l)) none none).run P w = .ok (cutV a c l.toNat m s) w := by
  simp [Instr.slice, run_und hT, Instr.sliceBounds, Instr.sliceBound, asIntOf, h0, h1, run_size hI, cutV]

theorem x_slice_lh {t e m s bb : Nat} {z : Value} {x lo hi : Operand} {v : Value} {kl kh : IntKind} {l h : Int} [hT : Ty P t (.slice e)] [hI : Inf P e s bb z] (hg : gd ops σ g = some true) (hx : evo σ x = some v) (hlo : evo σ lo = some (.int kl l)) (hhi : evo σ hi = some (.int kh h)) (hS : IsSl v m) (h0 : 0 ≤ l) (h1 : l ≤ h) (h2 : h ≤ sc v) (hd : Nat.blt d n = true) (hk : okq ops md i ⟨some d, .slice t x (some lo) (some hi) none, ty, pos, after, g⟩ H)
    (hh : ∀ u, IsSl u (h.toNat - l.toNat) → CutOf u v l.toNat s → XW P n B w0 md ops rest k ((d, u) :: σ) H) : XW P n B w0 md ops (.op i ⟨some d, .slice t x (some lo) (some hi) none, ty, pos, after, g⟩ rest) k σ H := by
  obtain ⟨a, c, he, hc, hu, hcut⟩ := cut_facts (s := s) hS (l := l.toNat) (h := h.toNat) (by omega) (by omega)
  refine x_pure hk hg rfl hd (fun A w hM ha => ?_) (hh _ hu hcut)
  have := run_slice_lh' (P := P) (w := w) hT hI a m c kl kh l h h0 h1 (by rw [hc] at h2; exact h2)
  simp [execOp, Instr.sliceAt, run_und hT, ha.evo hx, ha.evo hlo, ha.evo hhi, he, this]
theorem x_slice_h {t e m s bb : Nat} {z : Value} {x hi : Operand} {v : Value} {kh : IntKind} {h : Int} [hT : Ty P t (.slice e)] [hI : Inf P e s bb z] (hg : gd ops σ g = some true) (hx : evo σ x = some v) (hhi : evo σ hi = some (.int kh h)) (hS : IsSl v m) (h1 : 0 ≤ h) (h2 : h ≤ sc v) (hd : Nat.blt d n = true) (hk : okq ops md i ⟨some d, .slice t x none (some hi) none, ty, pos, after, g⟩ H)
    (hh : ∀ u, IsSl u h.toNat → CutOf u v 0 s → XW P n B w0 md ops rest k ((d, u) :: σ) H) : XW P n B w0 md ops (.op i ⟨some d, .slice t x none (some hi) none, ty, pos, after, g⟩ rest) k σ H := by
  obtain ⟨a, c, he, hc, hu, hcut⟩ := cut_facts (s := s) hS (l := 0) (h := h.toNat) (by omega) (by omega)
  refine x_pure hk hg rfl hd (fun A w hM ha => ?_) (hh _ hu hcut)
  have := run_slice_h' (P := P) (w := w) hT hI a m c kh h h1 (by rw [hc] at h2; exact h2)
  simp [execOp, Instr.sliceAt, run_und hT, ha.evo hx, ha.evo hhi, he, this]
theorem x_slice_l {t e m s bb : Nat} {z : Value} {x lo : Operand} {v : Value} {kl : IntKind} {l : Int} [hT : Ty P t (.slice e)] [hI : Inf P e s bb z] (hg : gd ops σ g = some true) (hx : evo σ x = some v) (hlo : evo σ lo = some (.int kl l)) (hS : IsSl v m) (h0 : 0 ≤ l) (h1 : l ≤ m) (hd : Nat.blt d n = true) (hk : okq ops md i ⟨some d, .slice t x (some lo) none none, ty, pos, after, g⟩ H)
    (hh : ∀ u, IsSl u (m - l.toNat) → CutOf u v l.toNat s → XW P n B w0 md ops rest k ((d, u) :: σ) H) : XW P n B w0 md ops (.op i ⟨some d, .slice t x (some lo) none none, ty, pos, after, g⟩ rest) k σ H := by
  obtain ⟨a, c, he, hc, hu, hcut⟩ := cut_facts (s := s) hS (l := l.toNat) (h := m) (by omega) hS.cap.1
  refine x_pure hk hg rfl hd (fun A w hM ha => ?_) (hh _ hu hcut)
  have := run_slice_l' (P := P) (w := w) hT hI a m c kl l h0 h1
  simp [execOp, Instr.sliceAt, run_und hT, ha.evo hx, ha.evo hlo, he, this]

/-- strings -/
theorem x_str_lh {t : Nat} {x lo hi : Operand} {s : ByteArray} {kl kh : IntKind} {l h : Int} [hT : Ty P t .string] (hg : gd ops σ g = some true) (hx : evo σ x = some (.string s)) (hlo : evo σ lo = some (.int kl l)) (hhi : evo σ hi = some (.int kh h)) (h0 : 0 ≤ l) (h1 : l ≤ h) (h2 : h ≤ s.size) (hd : Nat.blt d n = true) (hk : okq ops md i ⟨some d, .slice t x (some lo) (some hi) none, ty, pos, after, g⟩ H)
    (hh : XW P n B w0 md ops rest k ((d, .string (s.extract l.toNat h.toNat)) :: σ) H) : XW P n B w0 md ops (.op i ⟨some d, .slice t x (some lo) (some hi) none, ty, pos, after, g⟩ rest) k σ H :=
  x_pure hk hg rfl hd (fun A w hM ha => by
    obtain ⟨l, rfl⟩ := Int.eq_ofNat_of_zero_le h0
    obtain ⟨h, rfl⟩ := Int.eq_ofNat_of_zero_le (Int.le_trans h0 h1)
    have e1 : l ≤ h := by omega
    have e2 : h ≤ s.size := by omega
    simp [execOp, Instr.sliceAt, Instr.slice, run_und hT, ha.evo hx, ha.evo hlo, ha.evo hhi, Instr.sliceBounds, Instr.sliceBound, asIntOf, e1, e2]) hh
theorem x_str_h {t : Nat} {x hi : Operand} {s : ByteArray} {kh : IntKind} {h : Int} [hT : Ty P t .string] (hg : gd ops σ g = some true) (hx : evo σ x = some (.string s)) (hhi : evo σ hi = some (.int kh h)) (h1 : 0 ≤ h) (h2 : h ≤ s.size) (hd : Nat.blt d n = true) (hk : okq ops md i ⟨some d, .slice t x none (some hi) none, ty, pos, after, g⟩ H)
    (hh : XW P n B w0 md ops rest k ((d, .string (s.extract 0 h.toNat)) :: σ) H) : XW P n B w0 md ops (.op i ⟨some d, .slice t x none (some hi) none, ty, pos, after, g⟩ rest) k σ H :=
  x_pure hk hg rfl hd (fun A w hM ha => by
    simp [execOp, Instr.sliceAt, Instr.slice, run_und hT, ha.evo hx, ha.evo hhi, Instr.sliceBounds, Instr.sliceBound, asIntOf, h1, h2]) hh
theorem x_str_l {t : Nat} {x lo : Operand} {s : ByteArray} {kl : IntKind} {l : Int} [hT : Ty P t .string] (hg : gd ops σ g = some true) (hx : evo σ x = some (.string s)) (hlo : evo σ lo = some (.int kl l)) (h0 : 0 ≤ l) (h1 : l ≤ s.size) (hd : Nat.blt d n = true) (hk : okq ops md i ⟨some d, .slice t x (some lo) none none, ty, pos, after, g⟩ H)
    (hh : XW P n B w0 md ops rest k ((d, .string (s.extract l.toNat s.size)) :: σ) H) : XW P n B w0 md ops (.op i ⟨some d, .slice t x (some lo) none none, ty, pos, after, g⟩ rest) k σ H :=
  x_pure hk hg rfl hd (fun A w hM ha => by
    simp [execOp, Instr.sliceAt, Instr.slice, run_und hT, ha.evo hx, ha.evo hlo, Instr.sliceBounds, Instr.sliceBound, asIntOf, h0, h1]) hh
theorem x_index_str {t : Nat} {x y : Operand} {s : ByteArray} {ki : IntKind} {j : Int} {c : UInt8} [hT : Ty P t .string] (hg : gd ops σ g = some true) (hx : evo σ x = some (.string s)) (hy : evo σ y = some (.int ki j)) (h0 : 0 ≤ j) (hc : s.data[j.toNat]? = some c) (hd : Nat.blt d n = true) (hk : okq ops md i ⟨some d, .index t x y, ty, pos, after, g⟩ H)
    (hh : XW P n B w0 md ops rest k ((d, .int .u8 c.toNat) :: σ) H) : XW P n B w0 md ops (.op i ⟨some d, .index t x y, ty, pos, after, g⟩ rest) k σ H :=
  x_pure hk hg rfl hd (fun A w hM ha => by
    have hlt : j.toNat < s.data.size := (Array.getElem?_eq_some_iff.1 hc).1
    have e : s[j.toNat]? = some c := by
      rw [getElem?_pos s j.toNat hlt, ← hc, Array.getElem?_eq_getElem hlt]
      rfl
    simp [execOp, Instr.index, run_und hT, ha.evo hx, ha.evo hy, asIntOf, h0, e]) hh

def snil : Value → Bool
  | .slice none _ _ => true
  | _ => false
theorem x_sleqn {t t' e m z u : Nat} {x y : Operand} {v : Value} [hT : Ty P t (.slice e)] (hg : gd ops σ g = some true) (hx : evo σ x = some v) (hy : evo σ y = some (.slice none z u)) (hS : IsSl v m) (hd : Nat.blt d n = true) (hk : okq ops md i ⟨some d, .binOp .eql t x y t', ty, pos, after, g⟩ H)
    (h : XW P n B w0 md ops rest k ((d, .bool (snil v)) :: σ) H) : XW P n B w0 md ops (.op i ⟨some d, .binOp .eql t x y t', ty, pos, after, g⟩ rest) k σ H :=
  x_pure hk hg rfl hd (fun A w hM ha => by
    obtain ⟨a, c, rfl, _⟩ := hS
    cases a <;> simp [execOp, ha.evo hx, ha.evo hy, eqGuard, binOp, run_equal_slice hT, snil]) h
theorem x_slnen {t t' e m z u : Nat} {x y : Operand} {v : Value} [hT : Ty P t (.slice e)] (hg : gd ops σ g = some true) (hx : evo σ x = some v) (hy : evo σ y = some (.slice none z u)) (hS : IsSl v m) (hd : Nat.blt d n = true) (hk : okq ops md i ⟨some d, .binOp .neq t x y t', ty, pos, after, g⟩ H)
    (h : XW P n B w0 md ops rest k ((d, .bool (!snil v)) :: σ) H) : XW P n B w0 md ops (.op i ⟨some d, .binOp .neq t x y t', ty, pos, after, g⟩ rest) k σ H :=
  x_pure hk hg rfl hd (fun A w hM ha => by
    obtain ⟨a, c, rfl, _⟩ := hS
    cases a <;> simp [execOp, ha.evo hx, ha.evo hy, eqGuard, binOp, run_equal_slice hT, snil]) h

theorem x_makeFunc {fn : Fn} {fs cs : List Operand} {fv cv : List Value} (hg : gd ops σ g = some true) (hf : evs σ fs = some fv) (hc : evs σ cs = some cv) (hd : Nat.blt d n = true) (hk : okq ops md i ⟨some d, .makeFunc fn fs.toArray cs.toArray, ty, pos, after, g⟩ H)
    (h : XW P n B w0 md ops rest k ((d, .func fn fv.toArray cv.toArray) :: σ) H) : XW P n B w0 md ops (.op i ⟨some d, .makeFunc fn fs.toArray cs.toArray, ty, pos, after, g⟩ rest) k σ H :=
  x_pure hk hg rfl hd (fun A w hM ha => by
    have e1 := ha.evs _ _ hf
    have e2 := ha.evs _ _ hc
    simp [execOp, Instr.makeFunc, e1, e2]) h

/-! #### calls -/
theorem run_callFunc {P : Program} {w : World} {f : Nat} (hF : Fnc P f) (args : Array Value) : (callFunc f args).run P w = .ok (.enter f args) w := by
  obtain ⟨fn, h1, h2, h3⟩ := hF.fnc
  simp only [callFunc, Sem.run_bind, run_program, Result.andThen_ok, h1]
  rw [h2]
  simp only [Bool.false_eq_true, if_false, h3, Sem.run_pure]

theorem eff_call {o : Oper} {f : Nat} {vs : List Value} {Φ : Value → Heap → Prop} (hrun : ∀ a w, Sat n σ a → (execOp a.eval o).run P w = .ok (.enter f vs.toArray) w) (hC : Ret P f vs H Φ) : Eff P n w0 σ H o Φ := by
  intro a w ha hw N Q h
  rw [hrun a w ha, Oper.upon_enter]
  refine (hC w hw.heap).mono fun e w' ⟨v, he, hw', hp⟩ => ?_
  subst he
  exact h v w' ⟨rfl, hw'.os.trans hw.os, hw'.tape.trans hw.tape, hw'.output.trans hw.output⟩ hp

theorem x_call {dst : Option Tmp} {f : Nat} {xs : List Operand} {ts : Array TypeId} {vs : List Value} {Φ : Value → Heap → Prop} [hF : Fnc P f] (hg : gd ops σ g = some true) (hx : evs σ xs = some vs) (hd : dstOk dst n = true) (he : okE ops md i ⟨dst, .call ⟨.value (.func f), xs.toArray, ts⟩, ty, pos, after, g⟩)
    (hC : Ret P f vs H Φ) (h : ∀ v H', Φ v H' → okm ops md i H H' ∧ XW P n B w0 md ops rest k (putS dst v σ) H') : XW P n B w0 md ops (.op i ⟨dst, .call ⟨.value (.func f), xs.toArray, ts⟩, ty, pos, after, g⟩ rest) k σ H :=
  x_eff he hg hd (eff_call (fun a w ha => by
    have e1 := ha.evs _ _ hx
    simp [execOp, resolve, Deferred.ofValue, Act.eval, invoke, run_callFunc hF, e1]) hC) h

/-- a function value is called -/
theorem x_callv {dst : Option Tmp} {y : Operand} {f : Nat} {fv cv : List Value} {xs : List Operand} {ts : Array TypeId} {vs : List Value} {Φ : Value → Heap → Prop} [hF : Fnc P f] (hg : gd ops σ g = some true) (hy : evo σ y = some (.func (.func f) fv.toArray cv.toArray)) (hx : evs σ xs = some vs) (hd : dstOk dst n = true) (he : okE ops md i ⟨dst, .call ⟨.value y, xs.toArray, ts⟩, ty, pos, after, g⟩)
    (hC : Ret P f (fv ++ vs ++ cv) H Φ) (h : ∀ v H', Φ v H' → okm ops md i H H' ∧ XW P n B w0 md ops rest k (putS dst v σ) H') : XW P n B w0 md ops (.op i ⟨dst, .call ⟨.value y, xs.toArray, ts⟩, ty, pos, after, g⟩ rest) k σ H :=
  x_eff he hg hd (eff_call (fun a w ha => by
    have e1 := ha.evs _ _ hx
    simp [execOp, resolve, Deferred.ofValue, ha.evo hy, invoke, run_callFunc hF, e1]) hC) h

end ops
end Go.Proofs.YtbcflfkajkmkdaaDoor.X
namespace Go.Proofs.YtbcflfkajkmkdaaDoor.X
open Go
set_option linter.unusedVariables false
set_option linter.unusedSimpArgs false

/-! ### bytes -/
abbrev bv (b : UInt8) : Value := .int .u8 (b.toNat : Int)
def bvs (l : List UInt8) : List Value := l.map bv
theorem bvs_length (l : List UInt8) : (bvs l).length = l.length := by simp [bvs]
theorem bvs_get (l : List UInt8) (i : Nat) : (bvs l)[i]? = (l[i]?).map bv := by simp [bvs]
theorem bvs_append (l m : List UInt8) : bvs (l ++ m) = bvs l ++ bvs m := by simp [bvs]
theorem bvs_oneC (l : List UInt8) : ∀ v ∈ bvs l, oneC v = true := by
  intro v hv
  simp only [bvs, List.mem_map] at hv
  obtain ⟨b, _, rfl⟩ := hv
  rfl

/-- v is a slice of the bytes l -/
structure Bs (H : Heap) (v : Value) (l : List UInt8) : Prop where
  sl : IsSl v l.length
  at_ : Cels H (sb v) (so v) (bvs l)

theorem Bs.keep {S : Nat → Prop} {H H' : Heap} {v : Value} {l : List UInt8} (h : Bs H v l) (k : Keep S H H') (hn : l ≠ [] → ¬ S (sb v)) : Bs H' v l :=
  ⟨h.sl, h.at_.keep k (fun e => hn (by intro h'; subst h'; exact e rfl))⟩
theorem Bs.nil (H : Heap) : Bs H (.slice none 0 0) [] := ⟨isSl_nil, Cels.nil _ _ _⟩
theorem Bs.get {H : Heap} {v : Value} {l : List UInt8} (h : Bs H v l) (i : Nat) (b : UInt8) (hb : l[i]? = some b) : cel H (sb v) (so v + i) = some (bv b) := by
  have hlt : i < l.length := (List.getElem?_eq_some_iff.1 hb).1
  have := h.at_ i (by rw [bvs_length]; exact hlt)
  rw [this]
  congr 1
  have e : (bvs l)[i]? = some (bv b) := by rw [bvs_get, hb]; rfl
  rw [List.getElem?_eq_getElem (by rw [bvs_length]; exact hlt)] at e
  exact Option.some.inj e
theorem Bs.lt {H : Heap} {v : Value} {l : List UInt8} (h : Bs H v l) (hl : l ≠ []) : sb v < H.size := by
  cases l with
  | nil => exact absurd rfl hl
  | cons b r => exact lt_of_cel (h.get 0 b rfl)
theorem Bs.cut {H : Heap} {v u : Value} {l : List UInt8} {a b : Nat} (h : Bs H v l) (hu : IsSl u (b - a)) (hc : CutOf u v a 1) (hab : a ≤ b) (hb : b ≤ l.length) : Bs H u ((l.take b).drop a) := by
  refine ⟨by simpa [Nat.min_eq_left hb] using hu, ?_⟩
  by_cases he : a = b
  · subst he
    have : (l.take a).drop a = [] := by simp
    rw [this]
    exact Cels.nil _ _ _
  · have hlt : a < sc v := by have := h.sl.cap.1; omega
    obtain ⟨h1, h2⟩ := hc.at_ hlt
    rw [h1, h2, Nat.mul_one]
    have : bvs ((l.take b).drop a) = ((bvs l).take b).drop a := by simp [bvs, List.map_drop, List.map_take]
    rw [this]
    exact (h.at_.take b).drop a

theorem foldl_push (l : List UInt8) : ∀ s : ByteArray, (l.map fun b => (b.toNat : Int)).foldl (fun r n => r.push (UInt8.ofNat n.toNat)) s = ⟨s.data ++ l.toArray⟩ := by
  induction l with
  | nil => intro s; simp
  | cons b r ih =>
    intro s
    simp only [List.map_cons, List.foldl_cons]
    rw [ih]
    congr 1
    show (s.push (UInt8.ofNat ((b.toNat : Int)).toNat)).data ++ r.toArray = _
    have : UInt8.ofNat ((b.toNat : Int)).toNat = b := by simp
    rw [this]
    show s.data.push b ++ r.toArray = _
    simp

theorem run_tostr {P : Program} {w : World} {v : Value} {l : List UInt8} (h : Bs w.heap v l) : (Conv.bytesToString v).run P w = .ok (.string ⟨l.toArray⟩) w := by
  obtain ⟨⟨a, c, rfl, h1, h2, h3⟩, hc⟩ := h
  rcases h3 with rfl | ⟨b, o, rfl⟩
  · have : l = [] := by simpa using h1
    subst this
    cases a with
    | none => rfl
    | some a =>
      simp [Conv.bytesToString, loadCells, loadCellsFrom]
      rfl
  · have := run_loadCells (P := P) hc
    rw [bvs_length] at this
    simp only [sb, so] at this
    have e : bvs l = (l.map fun b => (b.toNat : Int)).map (Value.int .u8) := by simp [bvs]
    rw [e] at this
    rw [run_bytesToString w _ _ _ _ this, foldl_push]
    simp

section ops
variable {P : Program} {n : Nat} {B : Exit → Act → World → Prop} {w0 : World} {md : Md} {ops : List Oper} {rest : OT} {k : K} {σ : Sl} {H : Heap} {i : Nat}
variable {d : Nat} {ty : TypeId} {pos : String} {after : Array Edge} {g : Option (Nat × Bool)}

theorem x_tostr {s t e : Nat} {x : Operand} {v : Value} {l : List UInt8} [hS : Ty P s (.slice e)] [hE : Ty P e (.int .u8)] [hT : Ty P t .string] (hg : gd ops σ g = some true) (hx : evo σ x = some v) (hb : ∀ H', hpm md i H H' → Bs H' v l) (hd : Nat.blt d n = true) (hk : okq ops md i ⟨some d, .convert s t x, ty, pos, after, g⟩ H)
    (h : XW P n B w0 md ops rest k ((d, .string ⟨l.toArray⟩) :: σ) H) : XW P n B w0 md ops (.op i ⟨some d, .convert s t x, ty, pos, after, g⟩ rest) k σ H :=
  x_pure hk hg rfl hd (fun A w hM ha => by
    have hB := hb _ hM
    obtain ⟨a, c, e1, _⟩ := hB.sl
    have h1 := run_tostr (P := P) hB
    have h2 : (convert s t v).run P w = .ok (.string ⟨l.toArray⟩) w := by
      rw [e1] at h1 ⊢
      rw [run_convert_bytes_string w s t e a _ c hS.und hE.und hT.und, h1]
    simp [execOp, ha.evo hx, h2]) h

/-! ### what is stored, what is made -/
theorem Wd.of {w0 w w' : World} {H : Heap} (h : Wd w0 H w) (ho : w'.os = w.os) (ht : w'.tape = w.tape) (hp : w'.output = w.output) : Wd w0 w'.heap w' := ⟨rfl, ho.trans h.os, ht.trans h.tape, hp.trans h.output⟩

/-- one cell is stored -/
theorem x_store {t b o bb : Nat} {z : Value} {x y : Operand} {v : Value} {l : List Value} [hI : Inf P t 1 bb z] (hg : gd ops σ g = some true) (hx : evo σ x = some (ptr b o)) (hy : evo σ y = some v) (hO : oneC v = true) (hB : Blk H b l) (ho : o < l.length) (he : okE ops md i ⟨none, .store t x y, ty, pos, after, g⟩)
    (h : ∀ H', Blk H' b (l.set o v) → Keep (· = b) H H' → H'.size = H.size → okm ops md i H H' ∧ XW P n B w0 md ops rest k σ H') : XW P n B w0 md ops (.op i ⟨none, .store t x y, ty, pos, after, g⟩ rest) k σ H := by
  refine x_eff (E := fun _ H' => H' = setB H b (l.set o v)) he hg rfl (fun a w ha hw N Q hN => ?_) (fun _ H' hH' => ?_)
  · have hB' : Blk w.heap b l := by rw [hw.heap]; exact hB
    obtain ⟨w', hrun, hwd⟩ := run_storeCells (P := P) (w0 := w0) [v] w b o 0 l ⟨rfl, hw.os, hw.tape, hw.output⟩ hB' (by simp; omega) (by simpa using hO)
    rw [Nat.add_zero, putL_one ho] at hwd
    have e1 : (execOp a.eval ⟨none, .store t x y, ty, pos, after, g⟩).run P w = .ok .skip w' := by
      simp [execOp, Instr.storeAt, Instr.sureAddr, storeVar, ha.evo hx, ha.evo hy, oneC_cells hO, run_size hI, hrun]
    rw [e1, Oper.upon_skip]
    refine hN undef w' ⟨rfl, hwd.os, hwd.tape, hwd.output⟩ ?_
    rw [hwd.heap, hw.heap]
  · subst hH'
    exact h _ (setB_blk hB (by simp)) (setB_keep _ _ _) (setB_size _ _ _)

/-- a struct is stored -/
theorem x_stores {t b o s bb : Nat} {z : Value} {x y : Operand} {cs l : List Value} [hI : Inf P t s bb z] (hg : gd ops σ g = some true) (hx : evo σ x = some (ptr b o)) (hy : evo σ y = some (.agg cs.toArray)) (hl : cs.length = s) (hO : ∀ v ∈ cs, oneC v = true) (hB : Blk H b l) (ho : o + s ≤ l.length) (he : okE ops md i ⟨none, .store t x y, ty, pos, after, g⟩)
    (h : ∀ H', Blk H' b (putL l o cs) → Keep (· = b) H H' → H'.size = H.size → okm ops md i H H' ∧ XW P n B w0 md ops rest k σ H') : XW P n B w0 md ops (.op i ⟨none, .store t x y, ty, pos, after, g⟩ rest) k σ H := by
  refine x_eff (E := fun _ H' => H' = setB H b (putL l o cs)) he hg rfl (fun a w ha hw N Q hN => ?_) (fun _ H' hH' => ?_)
  · have hB' : Blk w.heap b l := by rw [hw.heap]; exact hB
    obtain ⟨w', hrun, hwd⟩ := run_storeCells (P := P) (w0 := w0) cs w b o 0 l ⟨rfl, hw.os, hw.tape, hw.output⟩ hB' (by omega) hO
    rw [Nat.add_zero] at hwd
    have e1 : (execOp a.eval ⟨none, .store t x y, ty, pos, after, g⟩).run P w = .ok .skip w' := by
      simp [execOp, Instr.storeAt, Instr.sureAddr, storeVar, ha.evo hx, ha.evo hy, Value.cells, run_size hI, hl, hrun]
    rw [e1, Oper.upon_skip]
    refine hN undef w' ⟨rfl, hwd.os, hwd.tape, hwd.output⟩ ?_
    rw [hwd.heap, hw.heap]
  · subst hH'
    exact h _ (setB_blk hB (putL_length (by omega))) (setB_keep _ _ _) (setB_size _ _ _)

/-- what a new row of cells is -/
structure New (H H' : Heap) (l : List Value) : Prop where
  blk : Blk H' H.size l
  keep : Keep Non H H'
  size : H'.size = H.size + 1
  raw : ∃ T, H'[H.size]? = some (.cells l.toArray T (0, 0))

theorem new_push (H : Heap) (l : List Value) (T : Nat) : New H (H.push (.cells l.toArray T)) l :=
  ⟨⟨T, (0, 0), by simp, fun o _ => by simp⟩, keep_push _ _, by simp, ⟨T, by simp⟩⟩

theorem run_newRow {P : Program} {w0 w : World} {H : Heap} (hw : Wd w0 H w) (T : Nat) (l : List Value) :
    ∃ w', (newRow T l.toArray).run P w = .ok ⟨H.size, 0, none⟩ w' ∧ Wd w0 w'.heap w' ∧ New H w'.heap l := by
  refine ⟨{ w with heap := w.heap.push (.cells l.toArray T) }, ?_, ⟨rfl, hw.os, hw.tape, hw.output⟩, ?_⟩
  · have e := hw.heap
    subst e
    rfl
  · rw [hw.heap]; exact new_push H l T

theorem x_new {o : Oper} {dst : Option Nat} {l : List Value} {v : Value} (he : okE ops md i o) (hdst : o.dst = dst) (hg : gd ops σ o.guard = some true) (hd : dstOk dst n = true)
    (hrun : ∀ a w, Sat n σ a → Wd w0 H w → ∃ w', (execOp a.eval o).run P w = .ok (.value v) w' ∧ Wd w0 w'.heap w' ∧ New H w'.heap l)
    (h : ∀ H', New H H' l → okm ops md i H H' ∧ XW P n B w0 md ops rest k (putS dst v σ) H') : XW P n B w0 md ops (.op i o rest) k σ H := by
  subst hdst
  refine x_eff (E := fun u H' => u = v ∧ New H H' l) he hg hd (fun a w ha hw N Q hN => ?_) (fun u H' ⟨e, hH'⟩ => by subst e; exact h H' hH')
  obtain ⟨w', hr, hwd, hnew⟩ := hrun a w ha hw
  rw [hr, Oper.upon_value]
  exact hN v w' hwd ⟨rfl, hnew⟩

theorem x_alloc {dst : Option Nat} {t s bb : Nat} {zs : List Value} [hI : Inf P t s bb (.agg zs.toArray)] (hg : gd ops σ g = some true) (hd : dstOk dst n = true) (he : okE ops md i ⟨dst, .alloc t, ty, pos, after, g⟩)
    (h : ∀ H', New H H' zs → okm ops md i H H' ∧ XW P n B w0 md ops rest k (putS dst (ptr H.size 0) σ) H') : XW P n B w0 md ops (.op i ⟨dst, .alloc t, ty, pos, after, g⟩ rest) k σ H :=
  x_new (l := zs) he rfl hg hd (fun a w ha hw => by
    obtain ⟨w', h1, h2, h3⟩ := run_newRow (P := P) hw t zs
    refine ⟨w', ?_, h2, h3⟩
    simp [execOp, Instr.alloc, run_zero hI, newVar, Value.cells, h1]) h
theorem x_alloc1 {dst : Option Nat} {t bb : Nat} {z : Value} [hI : Inf P t 1 bb z] (hg : gd ops σ g = some true) (hO : oneC z = true) (hd : dstOk dst n = true) (he : okE ops md i ⟨dst, .alloc t, ty, pos, after, g⟩)
    (h : ∀ H', New H H' [z] → okm ops md i H H' ∧ XW P n B w0 md ops rest k (putS dst (ptr H.size 0) σ) H') : XW P n B w0 md ops (.op i ⟨dst, .alloc t, ty, pos, after, g⟩ rest) k σ H :=
  x_new (l := [z]) he rfl hg hd (fun a w ha hw => by
    obtain ⟨w', h1, h2, h3⟩ := run_newRow (P := P) hw t [z]
    refine ⟨w', ?_, h2, h3⟩
    simp [execOp, Instr.alloc, run_zero hI, newVar, oneC_cells hO, h1]) h
theorem x_box {dst : Option Nat} {t : Nat} {x : Operand} {cs : List Value} (hg : gd ops σ g = some true) (hx : evo σ x = some (.agg cs.toArray)) (hd : dstOk dst n = true) (he : okE ops md i ⟨dst, .box t x, ty, pos, after, g⟩)
    (h : ∀ H', New H H' cs → okm ops md i H H' ∧ XW P n B w0 md ops rest k (putS dst (ptr H.size 0) σ) H') : XW P n B w0 md ops (.op i ⟨dst, .box t x, ty, pos, after, g⟩ rest) k σ H :=
  x_new (l := cs) he rfl hg hd (fun a w ha hw => by
    obtain ⟨w', h1, h2, h3⟩ := run_newRow (P := P) hw t cs
    refine ⟨w', ?_, h2, h3⟩
    simp [execOp, Instr.box, ha.evo hx, newVar, Value.cells, h1]) h
theorem x_box1 {dst : Option Nat} {t : Nat} {x : Operand} {v : Value} (hg : gd ops σ g = some true) (hx : evo σ x = some v) (hO : oneC v = true) (hd : dstOk dst n = true) (he : okE ops md i ⟨dst, .box t x, ty, pos, after, g⟩)
    (h : ∀ H', New H H' [v] → okm ops md i H H' ∧ XW P n B w0 md ops rest k (putS dst (ptr H.size 0) σ) H') : XW P n B w0 md ops (.op i ⟨dst, .box t x, ty, pos, after, g⟩ rest) k σ H :=
  x_new (l := [v]) he rfl hg hd (fun a w ha hw => by
    obtain ⟨w', h1, h2, h3⟩ := run_newRow (P := P) hw t [v]
    refine ⟨w', ?_, h2, h3⟩
    simp [execOp, Instr.box, ha.evo hx, newVar, oneC_cells hO, h1]) h

/-- parts 0, 1, 2, .. in order -/
def evq (σ : Sl) : Nat → List (Nat × Operand) → Option (List Value)
  | _, [] => some []
  | j, (f, x) :: r => bif Nat.beq f j then (match evo σ x, evq σ (j + 1) r with
    | some v, some vs => some (v :: vs)
    | _, _ => none) else none

theorem evq_evp : ∀ (xs : List (Nat × Operand)) (j : Nat) (vs : List Value), evq σ j xs = some vs → evp σ xs = some ((List.range' j vs.length).zip vs) := by
  intro xs
  induction xs with
  | nil => intro j vs h; simp [evq] at h; subst h; simp [evp]
  | cons x r ih =>
    intro j vs h
    obtain ⟨f, x⟩ := x
    simp only [evq] at h
    cases hb : Nat.beq f j with
    | false => rw [hb] at h; simp at h
    | true =>
      rw [hb] at h
      have := Nat.eq_of_beq_eq_true hb
      subst this
      simp only [cond_true] at h
      split at h
      · rename_i v us h1 h2
        simp only [Option.some.injEq] at h
        subst h
        simp [evp, h1, ih _ _ h2, List.range'_succ]
      · cases h

theorem fill_row (vs : List Value) (hO : ∀ v ∈ vs, oneC v = true) : ∀ (j : Nat) (pre : List Value) (z : List Value), pre.length = j → z.length = vs.length →
    Instr.fill (fun i => some (i * 1, 1)) (pre ++ z).toArray ((List.range' j vs.length).zip vs) = some (pre ++ vs).toArray := by
  induction vs with
  | nil => intro j pre z h1 h2; have : z = [] := by simpa using h2
           subst this; simp [Instr.fill]
  | cons v vs ih =>
    intro j pre z h1 h2
    cases z with
    | nil => simp at h2
    | cons z0 z =>
      have hv := oneC_cells (hO v (by simp))
      simp only [List.length_cons, List.range'_succ, List.zip_cons_cons]
      unfold Instr.fill
      simp only [hv]
      rw [if_neg (by simp; omega)]
      have he : ((#[v] : Array Value).zipIdx.foldl (fun cs (c, j') => cs.setIfInBounds (j * 1 + j') c) (pre ++ z0 :: z).toArray) = ((pre ++ [v]) ++ z).toArray := by
        simp [← h1]
      rw [he]
      have := ih (fun u hu => hO u (by simp [hu])) (j + 1) (pre ++ [v]) z (by simp [h1]) (by simpa using h2)
      rw [this]
      simp

/-- a slice of its own, element by element (elements of one cell) -/
theorem x_buildSlice {dst : Option Nat} {t e bb len : Nat} {z : Value} {parts : List (Nat × Operand)} {vs : List Value} [hT : Ty P t (.slice e)] [hI : Inf P e 1 bb z] (hz : oneC z = true) (hg : gd ops σ g = some true) (hx : evq σ 0 parts = some vs) (hl : vs.length = len) (hlen : len ≤ 16777216) (hO : ∀ v ∈ vs, oneC v = true) (hd : dstOk dst n = true) (he : okE ops md i ⟨dst, .buildSlice t len parts.toArray, ty, pos, after, g⟩)
    (h : ∀ H', New H H' vs → okm ops md i H H' ∧ XW P n B w0 md ops rest k (putS dst (.slice (some ⟨H.size, 0, none⟩) len len) σ) H') : XW P n B w0 md ops (.op i ⟨dst, .buildSlice t len parts.toArray, ty, pos, after, g⟩ rest) k σ H :=
  x_new (l := vs) he rfl hg hd (fun a w ha hw => by
    obtain ⟨w', h1, h2, h3⟩ := run_newRow (P := P) hw e vs
    refine ⟨w', ?_, h2, h3⟩
    have hev : (parts.toArray.map fun (i, x) => (i, a.eval x)).toList = (List.range' 0 vs.length).zip vs := by
      simp only [List.map_toArray]
      exact ha.evp _ _ (evq_evp _ _ _ hx)
    have hfill := fill_row vs hO 0 [] (List.replicate vs.length z) rfl (by simp)
    simp only [List.nil_append] at hfill
    simp only [execOp, Instr.buildSlice, Sem.run_bind, run_und hT, Result.andThen_ok, run_size hI, Nat.mul_one]
    rw [if_neg (by omega)]
    by_cases h0 : len = 0
    · subst h0
      have : vs = [] := by simpa using hl
      subst this
      simp only [hev]
      have e0 : Array.range 0 = #[] := rfl
      simp [Instr.fill, e0, h1]
    · simp only [h0, if_false, Sem.run_map, Sem.run_bind, run_zero hI, Result.andThen_ok, Sem.run_pure]
      simp only [hev]
      have hzz : ((Array.range len).map fun x => z.cells[x % z.cells.size]!) = (List.replicate vs.length z).toArray := by
        rw [oneC_cells hz]
        apply Array.ext
        · simp [hl]
        · intro j hj1 hj2
          simp [Nat.mod_one]
      simp only [Nat.mul_one] at hfill
      rw [hzz, hfill]
      simp [h1]) h
end ops
end Go.Proofs.YtbcflfkajkmkdaaDoor.X
namespace Go.Proofs.YtbcflfkajkmkdaaDoor.X
open Go
set_option linter.unusedVariables false
set_option linter.unusedSimpArgs false

/-- a slice of n elements (s cells each) whose row, up to its capacity, may be written; it holds the cells cs -/
structure Own (s : Nat) (H : Heap) (v : Value) (n : Nat) (cs : List Value) : Prop where
  sl : IsSl v n
  len : cs.length = n * s
  row : 0 < sc v → ∃ l, Blk H (sb v) l ∧ so v + sc v * s ≤ l.length ∧ (l.drop (so v)).take cs.length = cs

theorem Own.nil (s : Nat) (H : Heap) : Own s H (.slice none 0 0) 0 [] := ⟨isSl_nil, by simp, fun h => by simp [sc] at h⟩
theorem Own.keep {S : Nat → Prop} {s : Nat} {H H' : Heap} {v : Value} {n : Nat} {cs : List Value} (h : Own s H v n cs) (k : Keep S H H') (hn : 0 < sc v → ¬ S (sb v)) : Own s H' v n cs :=
  ⟨h.sl, h.len, fun hc => let ⟨l, h1, h2, h3⟩ := h.row hc; ⟨l, h1.keep k (hn hc), h2, h3⟩⟩
theorem Own.cels {s : Nat} {H : Heap} {v : Value} {n : Nat} {cs : List Value} (h : Own s H v n cs) : Cels H (sb v) (so v) cs := by
  by_cases hc : 0 < sc v
  · obtain ⟨l, h1, h2, h3⟩ := h.row hc
    have hle : n * s ≤ sc v * s := Nat.mul_le_mul_right s h.sl.cap.1
    have := h1.cels (so v) cs.length (by rw [h.len]; omega)
    rwa [h3] at this
  · have hz : n = 0 := by have := h.sl.cap.1; omega
    have : cs = [] := by
      have := h.len
      rw [hz] at this
      simpa using this
    subst this
    exact Cels.nil _ _ _
theorem Own.lt {s : Nat} {H : Heap} {v : Value} {n : Nat} {cs : List Value} (h : Own s H v n cs) (hc : 0 < sc v) : sb v < H.size := by
  obtain ⟨l, h1, _⟩ := h.row hc
  exact h1.lt

theorem grow_le (need : Nat) : ∀ (r c : Nat), 256 ≤ c → c ≤ 2 * need → Builtin.growBy need r c ≤ 2 * need := by
  intro r
  induction r with
  | zero => intro c _ h; exact h
  | succ r ih =>
    intro c h1 h2
    unfold Builtin.growBy
    split
    · exact h2
    · exact ih _ (by omega) (by omega)
theorem nextcap_le {need cap : Nat} (h : cap < need) : Builtin.nextslicecap need cap ≤ 2 * need := by
  unfold Builtin.nextslicecap
  split
  · omega
  · split
    · omega
    · exact grow_le need 4 cap (by omega) (by omega)

theorem run_firstCells {P : Program} {w : World} {u : Value} {m s : Nat} {cx : List Value} (hU : IsSl u m) (hl : cx.length = m * s) (hc : Cels w.heap (sb u) (so u) cx) :
    (Builtin.firstCells s m u).run P w = .ok cx.toArray w := by
  obtain ⟨a, c, rfl, h1, h2, rfl | ⟨b, o, rfl⟩⟩ := hU
  · have : m = 0 := by omega
    subst this
    have : cx = [] := by simpa using hl
    subst this
    cases a with
    | none => rfl
    | some a => simp [Builtin.firstCells, loadCells, loadCellsFrom]
  · have := run_loadCells (P := P) hc
    rw [hl] at this
    exact this

/-- what an append makes: v, of n elements, cells cs; u's cells cx behind them -/
structure App (s : Nat) (H H' : Heap) (v v' : Value) (n : Nat) (cs cx : List Value) (m : Nat) : Prop where
  own : Own s H' v' (n + m) (cs ++ cx)
  keep : Keep (fun b => b = sb v ∧ n + m ≤ sc v ∧ 0 < m) H H'
  place : (sb v' = sb v ∧ so v' = so v ∧ sc v' = sc v ∧ n + m ≤ sc v ∧ H'.size = H.size) ∨ (sb v' = H.size ∧ so v' = 0 ∧ sc v < n + m ∧ n + m ≤ sc v' ∧ H'.size = H.size + 1)

theorem run_append {P : Program} {w0 w : World} {H : Heap} {t t2 e e2 s bb : Nat} {z : Value} {ty : TypeId} (hT : Ty P t (.slice e)) (hT2 : Ty P t2 (.slice e2)) (hI : Inf P e s bb z) (hz : z.cells.size = s) (hs : 0 < s) (hbb : 0 < bb)
    (hw : Wd w0 H w) {v u : Value} {n m : Nat} {cs cx : List Value} (hv : Own s H v n cs) (hu : IsSl u m) (hl : cx.length = m * s) (hc : Cels H (sb u) (so u) cx) (hO : ∀ x ∈ cx, oneC x = true) (hsz : (n + m) * bb ≤ 140737488355328) :
    ∃ v' w', (Builtin.append_ #[t, t2] ty #[v, u]).run P w = .ok v' w' ∧ Wd w0 w'.heap w' ∧ App s H w'.heap v v' n cs cx m := by
  have hsl := hv.sl
  have hlen := hv.len
  have hcap := hsl.cap
  obtain ⟨a, c, he, h1, h2, h3⟩ := hv.sl
  have hsc : sc v = c := by rw [he]; rfl
  have hnm : n + m ≤ 140737488355328 := Nat.le_trans (Nat.le_mul_of_pos_right _ hbb) hsz
  have hx : (Builtin.lenOf u).run P w = .ok m w := by
    obtain ⟨a', c', rfl, _⟩ := hu
    rfl
  have hcw : Cels w.heap (sb u) (so u) cx := by rw [hw.heap]; exact hc
  have hfc : (Builtin.firstCells s m u).run P w = .ok cx.toArray w := run_firstCells hu hl hcw
  obtain ⟨inf, hi1, hi2, hi3, hi4⟩ := hI.get
  by_cases hfit : n + m ≤ c
  · -- in place
    rcases h3 with rfl | ⟨b, o, rfl⟩
    · have hn : n = 0 := by omega
      have hm : m = 0 := by omega
      subst hn hm
      have hcx : cx = [] := by simpa using hl
      subst hcx
      refine ⟨.slice a 0 0, w, ?_, ⟨rfl, hw.os, hw.tape, hw.output⟩, ?_⟩
      · rw [he]
        simp only [Builtin.append_, Sem.run_bind]
        cases a with
        | none => simp [run_und hT, run_und hT2, run_size hI, hx, hfc]
        | some a => simp [run_und hT, run_und hT2, run_size hI, hx, hfc, storeCells]
      · rw [hw.heap]
        refine ⟨by simpa [he] using hv, Keep.refl _ _, .inl ⟨by rw [he], by rw [he], by rw [he], by omega, rfl⟩⟩
    · have hsb : sb v = b := by rw [he]; rfl
      have hso : so v = o := by rw [he]; rfl
      have hmain : ∃ w', (storeCells ((⟨b, o, none⟩ : Addr).add (n * s)) cx).run P w = .ok () w' ∧ Wd w0 w'.heap w' ∧ Own s w'.heap (.slice (some ⟨b, o, none⟩) (n + m) c) (n + m) (cs ++ cx) ∧ Keep (fun k => k = sb v ∧ n + m ≤ sc v ∧ 0 < m) H w'.heap ∧ w'.heap.size = H.size := by
        by_cases hm : m = 0
        · subst hm
          have hcx : cx = [] := by simpa using hl
          subst hcx
          refine ⟨w, by simp [storeCells], ⟨rfl, hw.os, hw.tape, hw.output⟩, ?_, by rw [hw.heap]; exact Keep.refl _ _, by rw [hw.heap]⟩
          rw [hw.heap]
          simpa [he] using hv
        · have hc0 : 0 < sc v := by omega
          obtain ⟨l, hB, hll, htk⟩ := hv.row hc0
          rw [hsb] at hB
          rw [hso, hsc] at hll
          have hms : n * s + m * s ≤ c * s := by rw [← Nat.add_mul]; exact Nat.mul_le_mul_right s hfit
          have hB' : Blk w.heap b l := by rw [hw.heap]; exact hB
          obtain ⟨w', hrun, hwd⟩ := run_storeCells (P := P) (w0 := w0) cx w b (o + n * s) 0 l ⟨rfl, hw.os, hw.tape, hw.output⟩ hB' (by omega) hO
          rw [Nat.add_zero, hw.heap] at hwd
          refine ⟨w', by rw [addr_add]; exact hrun, ⟨rfl, hwd.os, hwd.tape, hwd.output⟩, ?_, ?_, by rw [hwd.heap, setB_size]⟩
          · rw [hwd.heap]
            refine ⟨isSl_some hfit h2, by simp [hlen, hl, Nat.add_mul], fun _ => ⟨putL l (o + n * s) cx, setB_blk hB (putL_length (by omega)), by rw [putL_length (by omega)]; exact hll, ?_⟩⟩
            rw [hso] at htk
            show ((putL l (o + n * s) cx).drop o).take (cs ++ cx).length = cs ++ cx
            apply List.ext_getElem?
            intro j
            simp only [List.length_append, List.getElem?_take, List.getElem?_drop]
            by_cases hj : j < cs.length + cx.length
            · rw [if_pos hj, putL_get (by omega)]
              by_cases hj2 : j < cs.length
              · rw [if_pos (by omega), List.getElem?_append_left hj2]
                have := congrArg (fun q => q[j]?) htk
                simp only [List.getElem?_take, hj2, if_true, List.getElem?_drop] at this
                exact this
              · rw [if_neg (by omega), if_pos (by omega), List.getElem?_append_right (by omega)]
                congr 1
                omega
            · rw [if_neg hj, List.getElem?_eq_none (by simp; omega)]
          · rw [hwd.heap]
            exact (setB_keep H b _).mono (fun k _ hk => ⟨by rw [hsb]; exact hk, by rw [hsc]; exact hfit, by omega⟩)
      obtain ⟨w', hrun, hwd, hown, hkeep, hsize⟩ := hmain
      refine ⟨_, w', ?_, hwd, ⟨hown, hkeep, .inl ⟨by rw [hsb]; rfl, by rw [hso]; rfl, by rw [hsc]; rfl, by rw [hsc]; exact hfit, hsize⟩⟩⟩
      rw [he]
      simp only [Builtin.append_, Sem.run_bind]
      simp [run_und hT, run_und hT2, run_size hI, hx, hfc, hfit, hrun]
  · -- it grows
    have hnc : ¬ (Builtin.nextslicecap (n + m) c * bb > 2 ^ 48) := by
      have h1 := nextcap_le (need := n + m) (cap := c) (by omega)
      have h2 : Builtin.nextslicecap (n + m) c * bb ≤ 2 * (n + m) * bb := Nat.mul_le_mul_right bb h1
      have h3 : 2 * (n + m) * bb = 2 * ((n + m) * bb) := by rw [Nat.mul_assoc]
      omega
    let nc := (Question.appendCap (n + m) c e).cut (w.tape w.drawn (.appendCap (n + m) c e))
    have hncge : n + m ≤ nc := Nat.le_add_right _ _
    have hnclt : nc ≤ 9223372036854775807 := by
      have : w.tape w.drawn (.appendCap (n + m) c e) % (2 ^ 63 - (n + m)) < 2 ^ 63 - (n + m) := Nat.mod_lt _ (by omega)
      show n + m + w.tape w.drawn (.appendCap (n + m) c e) % (2 ^ 63 - (n + m)) ≤ _
      omega
    have hzc : (Builtin.zeroCells z.cells (nc - (n + m))).size = (nc - (n + m)) * s := by simp [Builtin.zeroCells, hz]
    generalize hrest : Builtin.zeroCells z.cells (nc - (n + m)) = rest at hzc
    have hwd1 : Wd w0 H { w with drawn := w.drawn + 1 } := hw.drew
    obtain ⟨w', hr, hwd, hnew⟩ := run_newRow (P := P) hwd1 e (cs ++ cx ++ rest.toList)
    have hmul : (n + m) * s + (nc - (n + m)) * s = nc * s := by rw [← Nat.add_mul]; congr 1; omega
    refine ⟨.slice (some ⟨H.size, 0, none⟩) (n + m) nc, w', ?_, hwd, ⟨⟨isSl_some hncge hnclt, by simp [hlen, hl, Nat.add_mul], fun _ => ⟨_, hnew.blk, ?_, ?_⟩⟩, hnew.keep.mono (fun _ _ h => h.elim), .inr ⟨rfl, rfl, by rw [hsc]; omega, hncge, hnew.size⟩⟩⟩
    · have hold' : ∀ x : World, x.heap = w.heap → (Builtin.firstCells s n v).run P x = .ok cs.toArray x := fun x hx => run_firstCells hsl hlen (by rw [hx, hw.heap]; exact hv.cels)
      have hfc' : ∀ x : World, x.heap = w.heap → (Builtin.firstCells s m u).run P x = .ok cx.toArray x := fun x hx => run_firstCells hu hl (by rw [hx]; exact hcw)
      have e3 : (cs.toArray ++ cx.toArray ++ rest) = (cs ++ cx ++ rest.toList).toArray := by simp
      rw [he] at hold' ⊢
      have hnot : ¬ ((n + m : Nat) : Int) > IntKind.i64.max := by
        have : IntKind.i64.max = 9223372036854775807 := rfl
        rw [this]; omega
      simp only [Builtin.append_, Sem.run_bind]
      simp only [List.getElem?_toArray, List.getElem?_cons_zero, List.getElem?_cons_succ, run_und hT, run_und hT2, run_size hI, hx, Result.andThen_ok, Sem.run_bind, Sem.run_pure, Sem.run_ite, Bool.false_eq_true, if_false]
      rw [if_neg hfit]
      simp only [run_typeInfo_some hi1, Result.andThen_ok]
      rw [if_neg (fun h => hnot h.1)]
      rw [hi3, if_neg hnc]
      simp only [run_choose, Question.forced, Bool.false_eq_true, if_false, Result.andThen_ok, run_typeInfo_some hi1, run_askRoom, hold' { w with drawn := w.drawn + 1 } rfl, hfc' { w with drawn := w.drawn + 1 } rfl, run_zero hI, Bool.not_false, if_true]
      show ((newRow e (cs.toArray ++ cx.toArray ++ Builtin.zeroCells z.cells (nc - (n + m)))).run P { w with drawn := w.drawn + 1 }).andThen _ = _
      rw [hrest, e3, hr]
      rfl
    · show 0 + nc * s ≤ (cs ++ cx ++ rest.toList).length
      simp [hlen, hl, hzc]
      rw [← hmul, Nat.add_mul]
      omega
    · show ((cs ++ cx ++ rest.toList).drop 0).take (cs ++ cx).length = cs ++ cx
      rw [List.drop_zero, List.take_left]

section ops
variable {P : Program} {n : Nat} {B : Exit → Act → World → Prop} {w0 : World} {md : Md} {ops : List Oper} {rest : OT} {k : K} {σ : Sl} {H : Heap} {i : Nat}
variable {d : Nat} {ty : TypeId} {pos : String} {after : Array Edge} {g : Option (Nat × Bool)}

theorem x_append {dst : Option Nat} {t t2 e e2 s bb c m : Nat} {z : Value} {x y : Operand} {v u : Value} {cs cx : List Value} [hT : Ty P t (.slice e)] [hT2 : Ty P t2 (.slice e2)] [hI : Inf P e s bb z] (hz : z.cells.size = s) (hs : Nat.blt 0 s = true) (hbb : Nat.blt 0 bb = true)
    (hg : gd ops σ g = some true) (hx : evo σ x = some v) (hy : evo σ y = some u) (hv : Own s H v c cs) (hu : IsSl u m) (hl : cx.length = m * s) (hc : Cels H (sb u) (so u) cx) (hO : ∀ x ∈ cx, oneC x = true) (hsz : (c + m) * bb ≤ 140737488355328)
    (hd : dstOk dst n = true) (he : okE ops md i ⟨dst, .call ⟨.builtin .append, #[x, y], #[t, t2]⟩, ty, pos, after, g⟩)
    (h : ∀ v' H', App s H H' v v' c cs cx m → okm ops md i H H' ∧ XW P n B w0 md ops rest k (putS dst v' σ) H') : XW P n B w0 md ops (.op i ⟨dst, .call ⟨.builtin .append, #[x, y], #[t, t2]⟩, ty, pos, after, g⟩ rest) k σ H := by
  refine x_eff (E := fun v' H' => App s H H' v v' c cs cx m) he hg hd (fun a w ha hw N Q hN => ?_) h
  obtain ⟨v', w', hr, hwd, hA⟩ := run_append (P := P) (ty := ty) hT hT2 hI hz (by simpa [Nat.blt_eq] using hs) (by simpa [Nat.blt_eq] using hbb) hw hv hu hl hc hO hsz
  have e1 : (execOp a.eval ⟨dst, .call ⟨.builtin .append, #[x, y], #[t, t2]⟩, ty, pos, after, g⟩).run P w = .ok (.value v') w' := by
    simp [execOp, resolve, invoke, builtin, ha.evo hx, ha.evo hy, hr]
  rw [e1, Oper.upon_value]
  exact hN v' w' hwd hA
end ops
end Go.Proofs.YtbcflfkajkmkdaaDoor.X
namespace Go.Proofs.YtbcflfkajkmkdaaDoor.X
open Go
set_option linter.unusedVariables false
set_option linter.unusedSimpArgs false

/-! ### more operations -/
/-- the function number f is the library's own comparison of bytes -/
class IsCmp (P : Program) (f : Nat) : Prop where
  cmp : ∃ fn, P.funcs[f]? = some fn ∧ (fn.name == "runtime.NumGoroutine") = false ∧ fn.body.isNone = true ∧ Extern.findNext fn = none ∧ Extern.find fn = some Extern.BytealgCompare.compare

theorem run_bytesOf {P : Program} {w : World} {v : Value} {l : List UInt8} (h : Bs w.heap v l) : (Extern.Bytes.bytesOf v).run P w = .ok ⟨l.toArray⟩ w := by
  obtain ⟨⟨a, c, rfl, h1, h2, h3⟩, hc⟩ := h
  rcases h3 with rfl | ⟨b, o, rfl⟩
  · have : l = [] := by simpa using h1
    subst this
    cases a with
    | none => rfl
    | some a => rfl
  · have hl := Lib.run_loadBytesX (P := P) w (l.map fun b => (b.toNat : Int)) ⟨b, o, none⟩ .empty (fun j x hj => by
      simp only [List.getElem?_map, Option.map_eq_some_iff] at hj
      obtain ⟨y, hy, rfl⟩ := hj
      have hlt : j < l.length := (List.getElem?_eq_some_iff.1 hy).1
      have hc2 := hc j (by rw [bvs_length]; exact hlt)
      rw [addr_add, cell_heap]
      simp only [sb, so] at hc2
      rw [hc2]
      congr 1
      have e : (bvs l)[j]? = some (bv y) := by rw [bvs_get, hy]; rfl
      rw [List.getElem?_eq_getElem (by rw [bvs_length]; exact hlt)] at e
      exact Option.some.inj e)
    simp only [List.length_map] at hl
    have e : Lib.bytesOf (l.map fun b => (b.toNat : Int)) = l := by
      unfold Lib.bytesOf
      rw [List.map_map]
      conv => rhs; rw [← List.map_id l]
      congr 1
      funext b
      simp
    rw [e] at hl
    simp only [Extern.Bytes.bytesOf, hl]
    congr 1
    congr 1
    show (#[] : Array UInt8) ++ l.toArray = l.toArray
    simp

theorem run_cmp {P : Program} {w : World} {va vb : Value} {la lb : List UInt8} (ha : Bs w.heap va la) (hb : Bs w.heap vb lb) :
    (Extern.BytealgCompare.compare #[va, vb]).run P w = .ok (.int .i64 (Lib.compareBytes la lb)) w := by
  have := Lib.run_compareString (P := P) ⟨la.toArray⟩ ⟨lb.toArray⟩ w
  change Sem.run P (do pure (goInt (Extern.BytealgCompare.cmp (← Extern.Bytes.bytesOf (.string ⟨la.toArray⟩)) (← Extern.Bytes.bytesOf (.string ⟨lb.toArray⟩))))) w = _ at this
  change Sem.run P (do pure (goInt (Extern.BytealgCompare.cmp (← Extern.Bytes.bytesOf va) (← Extern.Bytes.bytesOf vb)))) w = _
  simp only [Extern.Bytes.bytesOf, Sem.run_bind, Sem.run_pure, Result.andThen] at this
  simp only [Sem.run_bind, Sem.run_pure, Result.andThen, run_bytesOf ha, run_bytesOf hb]
  exact this

section ops
variable {P : Program} {n : Nat} {B : Exit → Act → World → Prop} {w0 : World} {md : Md} {ops : List Oper} {rest : OT} {k : K} {σ : Sl} {H : Heap} {i : Nat}
variable {d : Nat} {ty : TypeId} {pos : String} {after : Array Edge} {g : Option (Nat × Bool)}

theorem x_bcmp {f : Nat} {x y : Operand} {ts : Array TypeId} {va vb : Value} {la lb : List UInt8} [hF : IsCmp P f] (hg : gd ops σ g = some true) (hx : evo σ x = some va) (hy : evo σ y = some vb) (ha : ∀ H', hpm md i H H' → Bs H' va la) (hb : ∀ H', hpm md i H H' → Bs H' vb lb) (hd : Nat.blt d n = true) (hk : okq ops md i ⟨some d, .call ⟨.value (.func f), #[x, y], ts⟩, ty, pos, after, g⟩ H)
    (h : XW P n B w0 md ops rest k ((d, .int .i64 (Lib.compareBytes la lb)) :: σ) H) : XW P n B w0 md ops (.op i ⟨some d, .call ⟨.value (.func f), #[x, y], ts⟩, ty, pos, after, g⟩ rest) k σ H :=
  x_pure hk hg rfl hd (fun A w hM hA => by
    obtain ⟨fn, h1, h2, h3, h4, h5⟩ := hF.cmp
    have := run_callFunc_extern h1 h2 h3 h4 h5 #[va, vb] w
    rw [run_cmp (ha _ hM) (hb _ hM)] at this
    simp only [Result.andThen] at this
    have e0 : A.eval (.func f) = .func (.func f) #[] #[] := rfl
    simp [execOp, resolve, Deferred.ofValue, e0, invoke, hA.evo hx, hA.evo hy, this]) h

/-- a call that leaves memory alone, in a region that draws its order -/
theorem x_callq {dst : Nat} {f : Nat} {xs : List Operand} {ts : Array TypeId} {vs : List Value} {v : Value} [hF : Fnc P f] (hg : gd ops σ g = some true) (hx : evs σ xs = some vs) (hd : Nat.blt dst n = true)
    (hC : Ret P f vs H (fun u H' => H' = H ∧ u = v)) (h : XW P n B w0 .quiet ops rest k ((dst, v) :: σ) H) : XW P n B w0 .quiet ops (.op i ⟨some dst, .call ⟨.value (.func f), xs.toArray, ts⟩, ty, pos, after, g⟩ rest) k σ H := by
  intro a ha
  show wpQuiet _ _ _ _ (_ :: rest.toList) a
  unfold wpQuiet
  rw [if_pos (gd_wanted ha hg)]
  refine ⟨v, fun w hw => ?_, h _ (ha.put hd v)⟩
  unfold Oper.quietAt
  have e1 := ha.evs _ _ hx
  have e2 : (execOp a.eval ⟨some dst, .call ⟨.value (.func f), xs.toArray, ts⟩, ty, pos, after, g⟩).run P w = .ok (.enter f vs.toArray) w := by
    simp [execOp, resolve, Deferred.ofValue, Act.eval, invoke, run_callFunc hF, e1]
  rw [e2]
  refine ⟨rfl, (hC w hw.heap).mono fun e w' ⟨u, he, hw', hp1, hp2⟩ => ?_⟩
  subst hp2
  exact ⟨he, ⟨hp1, hw'.os.trans hw.os, hw'.tape.trans hw.tape, hw'.output.trans hw.output⟩⟩

theorem foldl_putL (c : List Value) : ∀ (j off : Nat) (z : List Value), off + j + c.length ≤ z.length →
    (c.zipIdx j).foldl (fun (cs : Array Value) (x : Value × Nat) => cs.setIfInBounds (off + x.2) x.1) z.toArray = (putL z (off + j) c).toArray := by
  induction c with
  | nil => intro j off z _; simp [putL_nil]
  | cons v c ih =>
    intro j off z h
    simp only [List.length_cons] at h
    simp only [List.zipIdx_cons, List.foldl_cons, List.setIfInBounds_toArray]
    rw [ih (j + 1) off (z.set (off + j) v) (by simp; omega), putL_cons (by omega)]
    rfl

theorem fill_rows (s : Nat) (css : List (List Value)) (hs : ∀ c ∈ css, c.length = s) : ∀ (j : Nat) (pre z : List Value), pre.length = j * s → z.length = css.length * s →
    Instr.fill (fun i => some (i * s, s)) (pre ++ z).toArray ((List.range' j css.length).zip (css.map fun c => Value.agg c.toArray)) = some (pre ++ css.flatten).toArray := by
  induction css with
  | nil =>
    intro j pre z h1 h2
    have : z = [] := by simpa using h2
    subst this
    simp [Instr.fill]
  | cons c css ih =>
    intro j pre z h1 h2
    have hc := hs c (by simp)
    simp only [List.length_cons, List.range'_succ, List.map_cons, List.zip_cons_cons]
    unfold Instr.fill
    have hcl : (Value.agg c.toArray).cells = c.toArray := rfl
    simp only [hcl]
    have hzl : z.length = css.length * s + s := by simpa [Nat.add_mul] using h2
    rw [if_neg (by simp [hc, h1, hzl])]
    have he : (c.toArray.zipIdx.foldl (fun cs (x : Value × Nat) => cs.setIfInBounds (j * s + x.2) x.1) (pre ++ z).toArray) = ((pre ++ c) ++ z.drop s).toArray := by
      have := foldl_putL c 0 (j * s) (pre ++ z) (by simp [hc, h1, hzl])
      have e2 : c.toArray.zipIdx.toList = c.zipIdx := by simp
      rw [← Array.foldl_toList, e2]
      simp only [Nat.add_zero] at this
      rw [this]
      congr 1
      unfold putL
      rw [← h1, List.take_left, ← List.drop_drop, List.drop_left, hc]
    rw [he]
    have := ih (fun d hd => hs d (by simp [hd])) (j + 1) (pre ++ c) (z.drop s) (by simp [h1, hc, Nat.add_mul]) (by simp [hzl])
    rw [this]
    simp

theorem x_buildSliceS {dst : Option Nat} {t e bb len s : Nat} {zs : List Value} {parts : List (Nat × Operand)} {css : List (List Value)} (hT : Ty P t (.slice e)) (hI : Inf P e s bb (.agg zs.toArray)) (hz : zs.length = s) (hg : gd ops σ g = some true) (hx : evq σ 0 parts = some (css.map fun c => Value.agg c.toArray)) (hl : css.length = len) (hlen : len * s ≤ 16777216) (hO : ∀ c ∈ css, c.length = s) (hd : dstOk dst n = true) (he : okE ops md i ⟨dst, .buildSlice t len parts.toArray, ty, pos, after, g⟩)
    (h : ∀ H', New H H' css.flatten → okm ops md i H H' ∧ XW P n B w0 md ops rest k (putS dst (.slice (some ⟨H.size, 0, none⟩) len len) σ) H') : XW P n B w0 md ops (.op i ⟨dst, .buildSlice t len parts.toArray, ty, pos, after, g⟩ rest) k σ H :=
  x_new (l := css.flatten) he rfl hg hd (fun a w ha hw => by
    obtain ⟨w', h1, h2, h3⟩ := run_newRow (P := P) hw e css.flatten
    refine ⟨w', ?_, h2, h3⟩
    have hev : (parts.toArray.map fun (i, x) => (i, a.eval x)).toList = (List.range' 0 css.length).zip (css.map fun c => Value.agg c.toArray) := by
      simp only [List.map_toArray]
      have := ha.evp _ _ (evq_evp _ _ _ hx)
      simpa using this
    simp only [execOp, Instr.buildSlice, Sem.run_bind, run_und hT, Result.andThen_ok, run_size hI]
    rw [if_neg (by omega)]
    by_cases h0 : len * s = 0
    · have hfill := fill_rows s css hO 0 [] [] (by simp) (by rw [hl, h0]; rfl)
      simp only [List.nil_append] at hfill
      have e0 : Array.range 0 = #[] := rfl
      simp only [h0, if_true, Sem.run_pure, Result.andThen_ok, hev]
      rw [e0]
      simp only [Array.map_empty]
      rw [show (#[] : Array Value) = ([] : List Value).toArray from rfl, hfill]
      simp [h1]
    · simp only [h0, if_false, Sem.run_map, Sem.run_bind, run_zero hI, Result.andThen_ok, Sem.run_pure, Value.cells]
      have hfill := fill_rows s css hO 0 [] ((Array.range (len * s)).map fun x => zs.toArray[x % zs.toArray.size]!).toList (by simp) (by simp [hl])
      simp only [List.nil_append] at hfill
      simp only [hev]
      rw [show ((Array.range (len * s)).map fun x => zs.toArray[x % zs.toArray.size]!) = ((Array.range (len * s)).map fun x => zs.toArray[x % zs.toArray.size]!).toList.toArray from (Array.toArray_toList ..).symm, hfill]
      simp [h1]) h
/-- one struct, two structs -/
theorem x_buildSliceS1 {dst : Option Nat} {t e bb s : Nat} {zs : List Value} {parts : List (Nat × Operand)} {c : List Value} [hT : Ty P t (.slice e)] [hI : Inf P e s bb (.agg zs.toArray)] (hz : zs.length = s) (hg : gd ops σ g = some true) (hx : evq σ 0 parts = some [Value.agg c.toArray]) (hlen : s ≤ 16777216) (hO : c.length = s) (hd : dstOk dst n = true) (he : okE ops md i ⟨dst, .buildSlice t 1 parts.toArray, ty, pos, after, g⟩)
    (h : ∀ H', New H H' c → okm ops md i H H' ∧ XW P n B w0 md ops rest k (putS dst (.slice (some ⟨H.size, 0, none⟩) 1 1) σ) H') : XW P n B w0 md ops (.op i ⟨dst, .buildSlice t 1 parts.toArray, ty, pos, after, g⟩ rest) k σ H :=
  x_buildSliceS (css := [c]) hT hI hz hg hx rfl (by omega) (by intro d hd; simp at hd; subst hd; exact hO) hd he (by simpa using h)
theorem x_buildSliceS2 {dst : Option Nat} {t e bb s : Nat} {zs : List Value} {parts : List (Nat × Operand)} {c c' : List Value} [hT : Ty P t (.slice e)] [hI : Inf P e s bb (.agg zs.toArray)] (hz : zs.length = s) (hg : gd ops σ g = some true) (hx : evq σ 0 parts = some [Value.agg c.toArray, Value.agg c'.toArray]) (hlen : s ≤ 8388608) (hO : c.length = s) (hO' : c'.length = s) (hd : dstOk dst n = true) (he : okE ops md i ⟨dst, .buildSlice t 2 parts.toArray, ty, pos, after, g⟩)
    (h : ∀ H', New H H' (c ++ c') → okm ops md i H H' ∧ XW P n B w0 md ops rest k (putS dst (.slice (some ⟨H.size, 0, none⟩) 2 2) σ) H') : XW P n B w0 md ops (.op i ⟨dst, .buildSlice t 2 parts.toArray, ty, pos, after, g⟩ rest) k σ H :=
  x_buildSliceS (css := [c, c']) hT hI hz hg hx rfl (by omega) (by intro d hd; simp at hd; rcases hd with rfl | rfl <;> assumption) hd he (by simpa using h)

/-- '[]byte("..")' of a constant: the conversion of a row to its own type marks it -/
theorem x_mark {dst : Option Nat} {t e b o m c : Nat} {x : Operand} {l : List Value} [hT : Ty P t (.slice e)] [hE : Ty P e (.int .u8)] (hg : gd ops σ g = some true) (hx : evo σ x = some (.slice (some ⟨b, o, none⟩) m c)) (hB : ∃ T, H[b]? = some (.cells l.toArray T (0, 0))) (hd : dstOk dst n = true) (he : okE ops md i ⟨dst, .convert t t x, ty, pos, after, g⟩)
    (h : ∀ H', Blk H' b l → Keep (· = b) H H' → H'.size = H.size → okm ops md i H H' ∧ XW P n B w0 md ops rest k (putS dst (.slice (some ⟨b, o, none⟩) m c) σ) H') : XW P n B w0 md ops (.op i ⟨dst, .convert t t x, ty, pos, after, g⟩ rest) k σ H := by
  refine x_eff (E := fun v H' => v = .slice (some ⟨b, o, none⟩) m c ∧ Blk H' b l ∧ Keep (· = b) H H' ∧ H'.size = H.size) he hg hd (fun a w ha hw N Q hN => ?_) (fun v H' hv => by obtain ⟨rfl, h1, h2, h3⟩ := hv; exact h H' h1 h2 h3)
  obtain ⟨T, hb⟩ := hB
  have hb' : w.heap[b]? = some (.cells l.toArray T (0, 0)) := by rw [hw.heap]; exact hb
  have hsh : w.shape? b = some (T, l.length) := by unfold World.shape?; rw [hb']; simp
  have e1 : (execOp a.eval ⟨dst, .convert t t x, ty, pos, after, g⟩).run P w = .ok (.value (.slice (some ⟨b, o, none⟩) m c)) (w.freeze ⟨b, l.length, none⟩ 1) := by
    simp [execOp, ha.evo hx, convert, run_und hT, run_und hE, markStringish, hsh]
  rw [e1, Oper.upon_value]
  have hfz : (w.freeze ⟨b, l.length, none⟩ 1).heap[b]? = some (.cells l.toArray T (l.length, l.length + 1)) := by
    unfold World.freeze
    rw [if_neg (by decide)]
    simp only [Array.getElem?_modify, if_true, hb', Option.map_some]
    rfl
  refine hN _ _ ⟨rfl, ?_, ?_, ?_⟩ ⟨rfl, ⟨T, _, hfz, fun q hq => by simp; omega⟩, ?_, ?_⟩
  · unfold World.freeze; rw [if_neg (by decide)]; exact hw.os
  · unfold World.freeze; rw [if_neg (by decide)]; exact hw.tape
  · unfold World.freeze; rw [if_neg (by decide)]; exact hw.output
  · have := keep_modify w.heap b (fun
      | .cells c elem (lo, hi) => .cells c elem (if lo == hi then (l.length, l.length + 1) else (min lo l.length, max hi (l.length + 1)))
      | o => o)
    unfold World.freeze
    rw [if_neg (by decide), ← hw.heap]
    exact this
  · unfold World.freeze
    rw [if_neg (by decide), ← hw.heap]
    simp
end ops
end Go.Proofs.YtbcflfkajkmkdaaDoor.X
namespace Go.Proofs.YtbcflfkajkmkdaaDoor.X
open Go
set_option linter.unusedVariables false
set_option linter.unusedSimpArgs false

/-! ### rows of the call's own, more -/
/-- new memory that the slice v alone leads to -/
def Fresh (H : Heap) (v : Value) : Prop := 0 < sc v → H.size ≤ sb v
theorem Own.bs {H : Heap} {v : Value} {l : List UInt8} (h : Own 1 H v l.length (bvs l)) : Bs H v l := ⟨h.sl, h.cels⟩
theorem Own.new {s : Nat} {H H' : Heap} {cs : List Value} {n : Nat} (h : New H H' cs) (hl : cs.length = n * s) (hn : n ≤ 9223372036854775807) : Own s H' (.slice (some ⟨H.size, 0, none⟩) n n) n cs :=
  ⟨isSl_some (Nat.le_refl _) hn, hl, fun _ => ⟨cs, h.blk, by show 0 + n * s ≤ _; omega, by show (cs.drop 0).take _ = _; simp⟩⟩
theorem Own.store {s : Nat} {H : Heap} {v : Value} {n : Nat} {cs : List Value} (h : Own s H v n cs) (q : Nat) (hq : q < cs.length) :
    ∃ l, Blk H (sb v) l ∧ so v + q < l.length ∧ ∀ H' x, Blk H' (sb v) (l.set (so v + q) x) → Own s H' v n (cs.set q x) := by
  have hn : 0 < n := by
    rcases Nat.eq_zero_or_pos n with h0 | h0
    · have := h.len
      rw [h0] at this
      omega
    · exact h0
  have hc : 0 < sc v := by have := h.sl.cap.1; omega
  obtain ⟨l, h1, h2, h3⟩ := h.row hc
  have hle : n * s ≤ sc v * s := Nat.mul_le_mul_right s h.sl.cap.1
  have hlen := h.len
  refine ⟨l, h1, by omega, fun H' x hB => ⟨h.sl, by simp [hlen], fun _ => ⟨_, hB, by simpa using h2, ?_⟩⟩⟩
  apply List.ext_getElem?
  intro j
  have h3' := congrArg (fun z => z[j]?) h3
  simp only [List.getElem?_take, List.getElem?_drop] at h3'
  rw [List.getElem?_take, List.getElem?_drop, List.length_set]
  by_cases hj : q = j
  · subst hj
    have hq2 : so v + q < l.length := by omega
    rw [if_pos hq, List.getElem?_set_self hq2, List.getElem?_set_self hq]
  · rw [List.getElem?_set_ne (by omega), List.getElem?_set_ne hj]
    exact h3'
theorem App.fresh {s : Nat} {H0 H H' : Heap} {v v' : Value} {n m : Nat} {cs cx : List Value} (h : App s H H' v v' n cs cx m) (hf : Fresh H0 v) (hk : H0.size ≤ H.size) : Fresh H0 v' := by
  intro hc
  rcases h.place with ⟨h1, h2, h3, h4, h5⟩ | ⟨h1, h2, h3, h4, h5⟩
  · rw [h1]; exact hf (by omega)
  · rw [h1]; exact hk
theorem Fresh.nil (H : Heap) : Fresh H (.slice Option.none 0 0) := fun h => by simp [sc] at h
theorem Fresh.mk_ (H : Heap) (n c : Nat) : Fresh H (.slice (some ⟨H.size, 0, Option.none⟩) n c) := fun _ => Nat.le_refl _
/-- nothing old was touched -/
theorem Keep.old {S : Nat → Prop} {H0 H H' : Heap} (h : Keep Non H0 H) (h' : Keep S H H') (hs : ∀ b, b < H0.size → S b → False) : Keep Non H0 H' :=
  h.step h' (fun b hb hS => hs b hb hS)
theorem App.old {s : Nat} {H0 H H' : Heap} {v v' : Value} {n m : Nat} {cs cx : List Value} (h : App s H H' v v' n cs cx m) (hf : Fresh H0 v) (hk : Keep Non H0 H) : Keep Non H0 H' :=
  hk.old h.keep (fun b hb hS => by
    obtain ⟨rfl, h1, h2⟩ := hS
    have := hf (by omega)
    omega)
theorem New.old {H0 H H' : Heap} {l : List Value} (h : New H H' l) (hk : Keep Non H0 H) : Keep Non H0 H' := hk.old h.keep (fun _ _ h => h)
theorem keep_at {H0 H H' : Heap} {b : Nat} (hk : Keep Non H0 H) (h : Keep (· = b) H H') (hb : H0.size ≤ b) : Keep Non H0 H' := hk.old h (fun c hc e => by subst e; omega)
theorem Keep.non_trans {H H' H'' : Heap} (h : Keep Non H H') (h' : Keep Non H' H'') : Keep Non H H'' := h.old h' (fun _ _ h => h)
theorem Bs.keepN {H H' : Heap} {v : Value} {l : List UInt8} (h : Bs H v l) (k : Keep Non H H') : Bs H' v l := h.keep k (fun _ h => h)
theorem add8 (x : UInt8) : IntKind.u8.wrap ((x.toNat : Int) + 1) = ((x + 1).toNat : Int) := by
  rw [wrap_u8_mod, UInt8.toNat_add]
  simp
theorem snil_len {v : Value} {n : Nat} (h : IsSl v n) (hn : snil v = true) : v = .slice none 0 0 ∧ n = 0 := by
  obtain ⟨a, c, rfl, h1, h2, rfl | ⟨b, o, rfl⟩⟩ := h
  · have : n = 0 := by omega
    subst this
    cases a with
    | none => exact ⟨rfl, rfl⟩
    | some a => simp [snil] at hn
  · simp [snil] at hn
end Go.Proofs.YtbcflfkajkmkdaaDoor.X
namespace Go.Proofs.YtbcflfkajkmkdaaDoor.X
open Go
set_option linter.unusedVariables false
set_option linter.unusedSimpArgs false

/-! ### along a schedule -/
section
variable {Cs : Nat → Heap → Prop} {ri : RI} {ops : List Oper} {i : Nat} {o : Oper} {H H' H0 : Heap}
theorem okq_reg (h1 : ri.isEff i = false) (h2 : ri.cls i = none) : okq ops (.held Cs ri) i o H := ⟨h1, fun c h => by rw [h2] at h; cases h⟩
theorem okq_load {c : Nat} (h1 : ri.isEff i = false) (h2 : ri.cls i = some c) (hC : Cs c H) : okq ops (.held Cs ri) i o H := ⟨h1, fun d h => by rw [h2] at h; cases h; exact hC⟩
theorem okm_nil (h : ri.cl = []) : okm ops (.held Cs ri) i H H' := fun c hc => by
  unfold RI.needs at hc
  rw [h] at hc
  simp at hc
/-- classes that say 'as it was, but for S' -/
theorem okm_keep {S S' : Nat → Prop} (hk : Keep S' H H') (hs : ∀ b, b < H0.size → S' b → S b) : okm ops (.held (fun _ => Keep S H0) ri) i H H' := fun c _ hC => hC.step hk hs
theorem hpmk {S : Nat → Prop} {c : Nat} {p : Heap → Prop} (h2 : ri.cls i = some c) (h : ∀ H', Keep S H0 H' → p H') : ∀ H', hpm (.held (fun _ => Keep S H0) ri) i H H' → p H' := fun H' hM => h H' (hM c h2)
/-- no operation waits in vain: none of those left is a load that the last one must mind -/
theorem okm_free (h : ∀ c, ri.needs ops.toArray i c = false) : okm ops (.held Cs ri) i H H' := fun c hc => by rw [h c] at hc; cases hc
end

/-! ### a law's row -/
/-- true, and nothing that was there is touched -/
def Yes (H : Heap) (v : Value) (H' : Heap) : Prop := v = .bool true ∧ Keep Non H H'
theorem Ret.calls {P : Program} {f : FuncId} {args : List Value} {w : World} {Φ : Value → Heap → Prop} (h : Ret P f args w.heap Φ) : Calls P f args.toArray w (RetB w Φ) := h w rfl
open Go.RowKit in
theorem Ret.below {P : Program} {f : FuncId} {args : List Value} {w : World} (h : Ret P f args w.heap (Yes w.heap)) : Calls P f args.toArray w fun e w' => e = .returned (.bool true) ∧ Below w.heap.size w w' :=
  h.calls.mono fun e w' ⟨v, he, hw, hv, hk⟩ => by
    subst hv
    exact ⟨he, hw.os, hw.tape, hw.output, hk.size, fun k hk' => hk.blk k hk' (fun h => h)⟩

theorem open_row {H : Type} {enc : TypeId × Value → H} {P : Program} {w : World} {base : Nat} {held : Bool} {t e : TypeId} {k : IntKind} {fuel : Nat} {a : Option Addr} {len cap : Nat} {x : DataW H × List MemPlace}
    (ht : P.underlying t = some (.slice e)) (he : P.underlying e = some (.int k)) (hc : P.cellsOf e = 1) (h : DataW.trod enc P w base (fun _ => true) held fuel t [.slice a len cap] = some x) :
    ∃ zs : List Int, zs.length = len ∧ IsSl (.slice a len cap) len ∧ Cels w.heap (sb (.slice a len cap)) (so (.slice a len cap)) (zs.map (Value.int k)) ∧ ∀ n ∈ zs, (Lit.int k n).wf = true := by
  rcases ChangeShapes.open_ints ht he hc h with ⟨hcs, _⟩ | ⟨ad, l, c, zs, hcs, _, hl, hm, hz, _, hcell, hwz⟩
  · simp at hcs
    obtain ⟨rfl, rfl, rfl⟩ := hcs
    exact ⟨[], rfl, isSl_nil, Cels.nil _ _ _, by simp⟩
  · simp at hcs
    obtain ⟨rfl, rfl, rfl⟩ := hcs
    simp only [if_true] at hz
    have hspot : cap = 0 ∨ ∃ b o, (some ad : Option Addr) = some ⟨b, o, none⟩ := by
      rcases Nat.eq_zero_or_pos cap with h0 | h0
      · exact .inl h0
      · right
        have h1 := hcell 0 (by omega)
        have e0 : ad.add 0 = ad := by simp [Addr.add]
        rw [e0] at h1
        obtain ⟨b, o, s⟩ := ad
        cases s with
        | none => exact ⟨b, o, rfl⟩
        | some s =>
          unfold World.cell? at h1
          split at h1 <;> simp at h1
    have hmax : cap ≤ 9223372036854775807 := by unfold maxLen at hm; exact hm
    refine ⟨zs.take len, by simp; omega, ⟨some ad, cap, rfl, hl, hmax, hspot⟩, ?_, fun n hn => hwz n (List.mem_of_mem_take hn)⟩
    intro j hj
    simp at hj
    rcases hspot with h0 | ⟨b, o, e⟩
    · omega
    · simp only [Option.some.injEq] at e
      subst e
      have h1 := hcell j (by omega)
      rw [addr_add, cell_heap] at h1
      simp only [sb, so]
      rw [h1]
      simp
      rw [List.getElem?_eq_getElem (by omega)]
      rfl
theorem wf_i64 {n : Int} (h : (Lit.int .i64 n).wf = true) : -9223372036854775808 ≤ n ∧ n ≤ 9223372036854775807 := by
  have e1 : IntKind.i64.min = -9223372036854775808 := rfl
  have e2 : IntKind.i64.max = 9223372036854775807 := rfl
  simpa [Lit.wf, e1, e2] using h
theorem wf_u64 {n : Int} (h : (Lit.int .u64 n).wf = true) : 0 ≤ n ∧ n ≤ 18446744073709551615 := by
  have e1 : IntKind.u64.min = 0 := rfl
  have e2 : IntKind.u64.max = 18446744073709551615 := rfl
  simpa [Lit.wf, e1, e2] using h
theorem wf_u32 {n : Int} (h : (Lit.int .u32 n).wf = true) : 0 ≤ n ∧ n ≤ 4294967295 := by
  have e1 : IntKind.u32.min = 0 := rfl
  have e2 : IntKind.u32.max = 4294967295 := rfl
  simpa [Lit.wf, e1, e2] using h
theorem wf_u8 {n : Int} (h : (Lit.int .u8 n).wf = true) : ∃ b : UInt8, n = (b.toNat : Int) := by
  have e1 : IntKind.u8.min = 0 := rfl
  have e2 : IntKind.u8.max = 255 := rfl
  have h' : 0 ≤ n ∧ n ≤ 255 := by simpa [Lit.wf, e1, e2] using h
  refine ⟨UInt8.ofNat n.toNat, ?_⟩
  simp
  omega
theorem wf_bytes {zs : List Int} (h : ∀ n ∈ zs, (Lit.int .u8 n).wf = true) : ∃ l : List UInt8, zs.map (Value.int .u8) = bvs l := by
  induction zs with
  | nil => exact ⟨[], rfl⟩
  | cons z zs ih =>
    obtain ⟨l, hl⟩ := ih (fun n hn => h n (by simp [hn]))
    obtain ⟨b, hb⟩ := wf_u8 (h z (by simp))
    exact ⟨b :: l, by simp [hb, hl, bvs]⟩
theorem bs_of_row {H : Heap} {v : Value} {zs : List Int} (hs : IsSl v zs.length) (hc : Cels H (sb v) (so v) (zs.map (Value.int .u8))) (h : ∀ n ∈ zs, (Lit.int .u8 n).wf = true) : ∃ l, Bs H v l ∧ l.length = zs.length := by
  obtain ⟨l, hl⟩ := wf_bytes h
  have hlen : l.length = zs.length := by
    have := congrArg List.length hl
    simpa [bvs_length] using this.symm
  exact ⟨l, ⟨by rw [hlen]; exact hs, by rw [← hl]; exact hc⟩, hlen⟩
end Go.Proofs.YtbcflfkajkmkdaaDoor.X
namespace Go.Proofs.YtbcflfkajkmkdaaDoor.X
open Go
set_option linter.unusedVariables false
set_option linter.unusedSimpArgs false
/-- the row that was appended to stands as it was -/
theorem App.first {s : Nat} {H H' : Heap} {v v' : Value} {n m : Nat} {cs cx : List Value} (h : App s H H' v v' n cs cx m) (hv : Own s H v n cs) : Own s H' v n cs := by
  rcases h.place with ⟨h1, h2, h3, h4, h5⟩ | ⟨h1, h2, h3, h4, h5⟩
  · refine ⟨hv.sl, hv.len, fun hc => ?_⟩
    obtain ⟨l, hB, hl, ht⟩ := h.own.row (by omega)
    rw [h1] at hB
    rw [h2] at hl ht
    rw [h3] at hl
    refine ⟨l, hB, hl, ?_⟩
    have := congrArg (List.take cs.length) ht
    rw [List.take_take, List.length_append, Nat.min_eq_left (by omega), List.take_left] at this
    exact this
  · exact hv.keep h.keep (fun _ e => by omega)
theorem konst_bs {H : Heap} {b : Nat} {l : List UInt8} (h : Blk H b (bvs l)) (hl : l.length ≤ 9223372036854775807) : Bs H (.slice (some ⟨b, 0, none⟩) l.length l.length) l := by
  refine ⟨isSl_some (Nat.le_refl _) hl, ?_⟩
  have := h.cels 0 l.length (by rw [bvs_length, Nat.zero_add]; exact Nat.le_refl _)
  rw [List.drop_zero, List.take_of_length_le (by rw [bvs_length]; exact Nat.le_refl _)] at this
  exact this
section ops
variable {P : Program} {n : Nat} {B : Exit → Act → World → Prop} {w0 : World} {md : Md} {ops : List Oper} {rest : OT} {k : K} {σ : Sl} {H : Heap} {i : Nat}
variable {d : Nat} {ty : TypeId} {pos : String} {after : Array Edge} {g : Option (Nat × Bool)}
/-- 'make' of a row whose elements have one cell -/
theorem x_makeSlice {dst : Option Nat} {t e bb : Nat} {z : Value} {x y : Operand} {l c : Nat} [hT : Ty P t (.slice e)] [hI : Inf P e 1 bb z] (hz : oneC z = true) (hg : gd ops σ g = some true) (hx : evo σ x = some (.int .i64 (l : Nat))) (hy : evo σ y = some (.int .i64 (c : Nat))) (hlc : l ≤ c) (hbc : bb * c ≤ 281474976710656) (hb0 : 0 < bb) (hd : dstOk dst n = true) (he : okE ops md i ⟨dst, .makeSlice t x y, ty, pos, after, g⟩)
    (h : ∀ H', New H H' (List.replicate c z) → okm ops md i H H' ∧ XW P n B w0 md ops rest k (putS dst (.slice (some ⟨H.size, 0, none⟩) l c) σ) H') : XW P n B w0 md ops (.op i ⟨dst, .makeSlice t x y, ty, pos, after, g⟩ rest) k σ H :=
  x_new (l := List.replicate c z) he rfl hg hd (fun a w ha hw => by
    obtain ⟨w', h1, h2, h3⟩ := run_newRow (P := P) hw e (List.replicate c z)
    refine ⟨w', ?_, h2, h3⟩
    have hc : c ≤ 281474976710656 := Nat.le_trans (by have := Nat.mul_le_mul_right c hb0; omega) hbc
    obtain ⟨i, hi1, hi2, hi3, hi4⟩ := hI.get
    have hw1 : IntKind.i64.wrap (l : Int) = l := wrap_i64 (by omega) (by omega)
    have hw2 : IntKind.i64.wrap (c : Int) = c := wrap_i64 (by omega) (by omega)
    have hbc' : ((bb * c : Nat) : Int) ≤ 281474976710656 := by omega
    have hzz : ((Array.range c).map fun x => z.cells[x % z.cells.size]!) = (List.replicate c z).toArray := by
      rw [oneC_cells hz]
      apply Array.ext
      · simp
      · intro j hj1 hj2
        simp [Nat.mod_one]
    have ht : (decide ((c : Int) < 0) || decide ((bb : Int) * (c : Int) > 2 ^ 48)) = false := by
      have e : (bb : Int) * (c : Int) = ((bb * c : Nat) : Int) := by simp
      rw [e, Bool.or_eq_false_iff, decide_eq_false_iff_not, decide_eq_false_iff_not]
      exact ⟨by omega, by omega⟩
    simp only [execOp, ha.evo hx, ha.evo hy, Instr.makeSlice, Sem.run_bind, run_und hT, Result.andThen_ok, asInt, asIntOf, Sem.run_pure, run_typeInfo_some hi1, hi3, hw1, hw2]
    have h5 : (decide ((l : Int) < 0) || decide ((l : Int) > (c : Int))) = false := by simp; omega
    simp only [ht, Bool.false_or, h5, Bool.or_assoc]
    simp [run_askRoom, run_size hI, hzz]
    by_cases h0 : c = 0
    · subst h0
      have e0 : Array.range 0 = #[] := rfl
      simp at h1
      simp [e0, h1]
    · have h1' : (newRow e (Array.replicate c z)).run P w = .ok ⟨H.size, 0, none⟩ w' := by rw [← h1]; simp
      simp [h0, run_zero hI, hzz, h1']) h
theorem x_neg_ {t : Nat} {x : Operand} {kd : IntKind} {a : Int} (hg : gd ops σ g = some true) (hx : evo σ x = some (.int kd a)) (hw : kd.wrap (-a) = -a) (hd : Nat.blt d n = true) (hk : okq ops md i ⟨some d, .unOp .neg t x, ty, pos, after, g⟩ H)
    (h : XW P n B w0 md ops rest k ((d, .int kd (-a)) :: σ) H) : XW P n B w0 md ops (.op i ⟨some d, .unOp .neg t x, ty, pos, after, g⟩ rest) k σ H :=
  x_neg hg hx hd hk (by rw [hw]; exact h)
theorem x_min3 {x y z : Operand} {ts : Array TypeId} {kd : IntKind} {a b c : Int} (hg : gd ops σ g = some true) (hx : evo σ x = some (.int kd a)) (hy : evo σ y = some (.int kd b)) (hz : evo σ z = some (.int kd c)) (hd : Nat.blt d n = true) (hk : okq ops md i ⟨some d, .call ⟨.builtin .min, #[x, y, z], ts⟩, ty, pos, after, g⟩ H)
    (h : XW P n B w0 md ops rest k ((d, .int kd (min (min a b) c)) :: σ) H) : XW P n B w0 md ops (.op i ⟨some d, .call ⟨.builtin .min, #[x, y, z], ts⟩, ty, pos, after, g⟩ rest) k σ H :=
  x_pure hk hg rfl hd (fun A w hM ha => by
    have e : (if b < a then b else a) = min a b := by split <;> omega
    have e2 : (if c < min a b then c else min a b) = min (min a b) c := by split <;> omega
    simp [execOp, resolve, invoke, builtin, Builtin.min_, Builtin.min2, ha.evo hx, ha.evo hy, ha.evo hz, e, e2]) h
end ops
/-! results that stand in a cell -/
section
variable {P : Program} {n : Nat} {fn : Func} {w0 : World} {Φ : Value → Heap → Prop} {k : K} {σ : Sl} {H : Heap}
theorem run_loadVar_stt {t b o s bb : Nat} {z : Value} {cs : List Value} {fs : List (Nat × Nat × Nat)} {w : World} (hT : Stt P t fs) (hI : Inf P t s bb z) (hl : cs.length = s) (hc : Cels w.heap b o cs) : (loadVar t ⟨b, o, none⟩).run P w = .ok (.agg cs.toArray) w := by
  have := run_loadCells (P := P) hc
  rw [hl] at this
  simp [loadVar, run_isAgg_stt hT, run_size hI, this]
theorem cw_retc {t T b o s bb : Nat} {z : Value} {cs : List Value} {fs : List (Nat × Nat × Nat)} [hT : Stt P T fs] [hI : Inf P T s bb z] (hr : fn.results = #[.cell t T]) (hl : look σ t = some (ptr b o)) (hs : cs.length = s) (hc : Cels H b o cs) (hΦ : Φ (.agg cs.toArray) H) : CW P n (bodyPost P fn (RetB w0 Φ)) w0 .ret k σ H :=
  cw_ret fun a w ha hw => ⟨ha.defers, .agg cs.toArray, by
    have h1 := run_loadVar_stt (P := P) (w := w) hT hI hs (by rw [hw.heap]; exact hc)
    simp [results, hr, ha.val _ _ hl, asAddr, h1], ⟨_, rfl, ⟨rfl, hw.os, hw.tape, hw.output⟩, hw.heap ▸ hΦ⟩⟩
theorem cw_retc2 {t u T b o s bb : Nat} {z v2 : Value} {cs : List Value} {fs : List (Nat × Nat × Nat)} [hT : Stt P T fs] [hI : Inf P T s bb z] (hr : fn.results = #[.cell t T, .tmp u]) (hl : look σ t = some (ptr b o)) (h2 : look σ u = some v2) (hs : cs.length = s) (hc : Cels H b o cs) (hΦ : Φ (.tuple #[.agg cs.toArray, v2]) H) : CW P n (bodyPost P fn (RetB w0 Φ)) w0 .ret k σ H :=
  cw_ret fun a w ha hw => ⟨ha.defers, .tuple #[.agg cs.toArray, v2], by
    have h1 := run_loadVar_stt (P := P) (w := w) hT hI hs (by rw [hw.heap]; exact hc)
    simp [results, hr, ha.val _ _ hl, ha.val _ _ h2, asAddr, h1], ⟨_, rfl, ⟨rfl, hw.os, hw.tape, hw.output⟩, hw.heap ▸ hΦ⟩⟩
end
end Go.Proofs.YtbcflfkajkmkdaaDoor.X
namespace Go.Proofs.YtbcflfkajkmkdaaDoor.X
open Go
set_option linter.unusedVariables false
set_option linter.unusedSimpArgs false

/-! ### rows of pairs: a key of bytes, a number -/
abbrev Pr := List UInt8 × Int
/-- the values that stand for pairs; K: what is known of the keys' -/
structure Pk (K : Value → List UInt8 → Prop) (q : List (Value × Int)) (l : List Pr) : Prop where
  len : q.length = l.length
  at_ : ∀ (i : Nat) (x : Value × Int) (p : Pr), q[i]? = some x → l[i]? = some p → x.2 = p.2 ∧ K x.1 p.1
theorem Pk.nil (K : Value → List UInt8 → Prop) : Pk K [] [] := ⟨rfl, fun i x p hx => by simp at hx⟩
theorem Pk.mono {K K' : Value → List UInt8 → Prop} {q : List (Value × Int)} {l : List Pr} (h : Pk K q l) (hm : ∀ v b, K v b → K' v b) : Pk K' q l :=
  ⟨h.len, fun i x p hx hp => ⟨(h.at_ i x p hx hp).1, hm _ _ (h.at_ i x p hx hp).2⟩⟩
theorem Pk.append {K : Value → List UInt8 → Prop} {q q' : List (Value × Int)} {l l' : List Pr} (h : Pk K q l) (h' : Pk K q' l') : Pk K (q ++ q') (l ++ l') := by
  have hl := h.len
  refine ⟨by simp [h.len, h'.len], fun i x p hx hp => ?_⟩
  by_cases hi : i < l.length
  · rw [List.getElem?_append_left (by omega)] at hx
    rw [List.getElem?_append_left hi] at hp
    exact h.at_ i x p hx hp
  · rw [List.getElem?_append_right (by omega)] at hx hp
    rw [h.len] at hx
    exact h'.at_ _ x p hx hp
theorem Pk.one {K : Value → List UInt8 → Prop} {v : Value} {p : Pr} (h : K v p.1) : Pk K [(v, p.2)] [p] := ⟨rfl, fun i x p' hx hp => by
  cases i with
  | zero => simp at hx hp; subst hx hp; exact ⟨rfl, h⟩
  | succ i => simp at hx⟩
theorem Pk.take {K : Value → List UInt8 → Prop} {q : List (Value × Int)} {l : List Pr} (h : Pk K q l) (n : Nat) : Pk K (q.take n) (l.take n) :=
  ⟨by simp [h.len], fun i x p hx hp => by
    rw [List.getElem?_take] at hx hp
    split at hx
    · rename_i hi
      rw [if_pos hi] at hp
      exact h.at_ i x p hx hp
    · cases hx⟩
theorem Pk.drop {K : Value → List UInt8 → Prop} {q : List (Value × Int)} {l : List Pr} (h : Pk K q l) (n : Nat) : Pk K (q.drop n) (l.drop n) :=
  ⟨by simp [h.len], fun i x p hx hp => by
    rw [List.getElem?_drop] at hx hp
    exact h.at_ _ x p hx hp⟩
/-- the cells of a row of pairs -/
def pcs (q : List (Value × Int)) : List Value := q.flatMap fun x => [x.1, .int .u64 x.2]
theorem pcs_cons (x : Value × Int) (q : List (Value × Int)) : pcs (x :: q) = x.1 :: .int .u64 x.2 :: pcs q := rfl
theorem pcs_length (q : List (Value × Int)) : (pcs q).length = q.length * 2 := by
  induction q with
  | nil => rfl
  | cons x q ih =>
    rw [pcs_cons]
    simp only [List.length_cons, ih]
    omega
theorem pcs_append (q r : List (Value × Int)) : pcs (q ++ r) = pcs q ++ pcs r := by simp [pcs]
theorem pcs_get (q : List (Value × Int)) (i : Nat) (x : Value × Int) (h : q[i]? = some x) : (pcs q)[i * 2]? = some x.1 ∧ (pcs q)[i * 2 + 1]? = some (.int .u64 x.2) := by
  induction q generalizing i with
  | nil => simp at h
  | cons y q ih =>
    cases i with
    | zero =>
      simp at h
      subst h
      exact ⟨rfl, rfl⟩
    | succ i =>
      simp at h
      have := ih i h
      have e : (i + 1) * 2 = i * 2 + 2 := by omega
      rw [e, pcs_cons]
      simpa using this
theorem pcs_take (q : List (Value × Int)) (n : Nat) : (pcs q).take (n * 2) = pcs (q.take n) := by
  induction q generalizing n with
  | nil => simp [pcs]
  | cons x q ih =>
    cases n with
    | zero => simp [pcs]
    | succ n =>
      have e : (n + 1) * 2 = n * 2 + 1 + 1 := by omega
      rw [e, pcs_cons, List.take_succ_cons, List.take_succ_cons, List.take_succ_cons, pcs_cons, ih]
theorem pcs_drop (q : List (Value × Int)) (n : Nat) : (pcs q).drop (n * 2) = pcs (q.drop n) := by
  induction q generalizing n with
  | nil => simp [pcs]
  | cons x q ih =>
    cases n with
    | zero => simp
    | succ n =>
      have e : (n + 1) * 2 = n * 2 + 1 + 1 := by omega
      rw [e, pcs_cons, List.drop_succ_cons, List.drop_succ_cons, List.drop_succ_cons, ih]
theorem isSl_oneC {v : Value} {n : Nat} (h : IsSl v n) : oneC v = true := by
  obtain ⟨a, c, rfl, _⟩ := h
  rfl
theorem pcs_oneC {K : Value → List UInt8 → Prop} {q : List (Value × Int)} {l : List Pr} (h : Pk K q l) (hK : ∀ v b, K v b → oneC v = true) : ∀ v ∈ pcs q, oneC v = true := by
  intro v hv
  simp only [pcs, List.mem_flatMap, List.mem_cons, List.not_mem_nil, or_false] at hv
  obtain ⟨x, hx, rfl | rfl⟩ := hv
  · obtain ⟨i, hi⟩ := List.getElem?_of_mem hx
    have hlt := (List.getElem?_eq_some_iff.1 hi).1
    obtain ⟨p, hp⟩ : ∃ p, l[i]? = some p := ⟨_, List.getElem?_eq_getElem (by have := h.len; omega)⟩
    exact hK _ _ (h.at_ i x p hi hp).2
  · rfl
structure Ps (H : Heap) (v : Value) (l : List Pr) : Prop where
  sl : IsSl v l.length
  row : ∃ q, Pk (Bs H) q l ∧ Cels H (sb v) (so v) (pcs q)
theorem Ps.at_ {H : Heap} {v : Value} {l : List Pr} (h : Ps H v l) (i : Nat) (p : Pr) (hp : l[i]? = some p) : ∃ k, cel H (sb v) (so v + i * 2) = some k ∧ cel H (sb v) (so v + i * 2 + 1) = some (.int .u64 p.2) ∧ Bs H k p.1 := by
  obtain ⟨q, hk, hc⟩ := h.row
  have hi := (List.getElem?_eq_some_iff.1 hp).1
  have hlen := hk.len
  obtain ⟨x, hx⟩ : ∃ x, q[i]? = some x := ⟨_, List.getElem?_eq_getElem (by omega)⟩
  obtain ⟨h1, h2⟩ := hk.at_ i x p hx hp
  obtain ⟨g1, g2⟩ := pcs_get q i x hx
  refine ⟨x.1, ?_, ?_, h2⟩
  · rw [hc (i * 2) (by rw [pcs_length]; omega), ← g1, List.getElem?_eq_getElem]
  · have := hc (i * 2 + 1) (by rw [pcs_length]; omega)
    rw [← Nat.add_assoc] at this
    rw [this, ← h1, ← g2, List.getElem?_eq_getElem]
theorem Ps.keepN {H H' : Heap} {v : Value} {l : List Pr} (h : Ps H v l) (k : Keep Non H H') : Ps H' v l := by
  obtain ⟨q, h1, h2⟩ := h.row
  exact ⟨h.sl, q, h1.mono fun _ _ hb => hb.keepN k, h2.keep k (fun _ h => h)⟩
theorem Ps.nil (H : Heap) : Ps H (.slice none 0 0) [] := ⟨isSl_nil, [], Pk.nil _, Cels.nil _ _ _⟩
theorem Ps.cut {H : Heap} {v u : Value} {l : List Pr} {a b : Nat} (h : Ps H v l) (hu : IsSl u (b - a)) (hc : CutOf u v a 2) (hab : a ≤ b) (hb : b ≤ l.length) : Ps H u ((l.take b).drop a) := by
  obtain ⟨q, h1, h2⟩ := h.row
  refine ⟨by simpa [Nat.min_eq_left hb] using hu, (q.take b).drop a, (h1.take b).drop a, ?_⟩
  by_cases he : a = b
  · subst he
    have : (q.take a).drop a = [] := by simp
    rw [this]
    exact Cels.nil _ _ _
  · have hlt : a < sc v := by have := h.sl.cap.1; omega
    obtain ⟨e1, e2⟩ := hc.at_ hlt
    rw [e1, e2, ← pcs_drop, ← pcs_take]
    exact (h2.take (b * 2)).drop (a * 2)

/-- no two keys in one block -/
def Dis (q : List (Value × Int)) : Prop := ∀ (i j : Nat) (x y : Value × Int), q[i]? = some x → q[j]? = some y → i ≠ j → 0 < sc x.1 → 0 < sc y.1 → sb x.1 ≠ sb y.1
/-- a row of pairs of the call's own: all of it stands from block B on; no key in the row's own block -/
structure Po (B : Nat) (H : Heap) (v : Value) (l : List Pr) : Prop where
  row : ∃ q, Pk (fun k b => Own 1 H k b.length (bvs b) ∧ (0 < sc k → B ≤ sb k ∧ sb k ≠ sb v)) q l ∧ Own 2 H v l.length (pcs q) ∧ Dis q
  fresh : 0 < sc v → B ≤ sb v
theorem Po.ps {B : Nat} {H : Heap} {v : Value} {l : List Pr} (h : Po B H v l) : Ps H v l := by
  obtain ⟨q, hk, ho, hd⟩ := h.row
  exact ⟨ho.sl, q, hk.mono fun _ _ hb => hb.1.bs, ho.cels⟩
theorem Po.nil (B : Nat) (H : Heap) : Po B H (.slice none 0 0) [] := ⟨⟨[], Pk.nil _, Own.nil 2 H, fun i j x y hx => by simp at hx⟩, fun h => by simp [sc] at h⟩
theorem Po.keepN {B : Nat} {H H' : Heap} {v : Value} {l : List Pr} (h : Po B H v l) (k : Keep Non H H') : Po B H' v l := by
  obtain ⟨q, hk, ho, hd⟩ := h.row
  exact ⟨⟨q, hk.mono fun _ _ hb => ⟨hb.1.keep k (fun _ h => h), hb.2⟩, ho.keep k (fun _ h => h), hd⟩, h.fresh⟩
theorem Po.keep {B : Nat} {S : Nat → Prop} {H H' : Heap} {v : Value} {l : List Pr} (h : Po B H v l) (k : Keep S H H') (hS : ∀ b, S b → b < B) : Po B H' v l := by
  obtain ⟨q, hk, ho, hd⟩ := h.row
  exact ⟨⟨q, hk.mono fun _ _ hb => ⟨hb.1.keep k (fun hc e => by have := (hb.2 hc).1; have := hS _ e; omega), hb.2⟩, ho.keep k (fun hc e => by have := h.fresh hc; have := hS _ e; omega), hd⟩, h.fresh⟩
/-- one more at the end: a key made anew, the row in place or anew -/
theorem Po.snoc {B : Nat} {H H1 H2 : Heap} {v v' k : Value} {l : List Pr} {q : List (Value × Int)} {p : Pr} (hfr : 0 < sc v → B ≤ sb v) (hk : Pk (fun k b => Own 1 H k b.length (bvs b) ∧ (0 < sc k → B ≤ sb k ∧ sb k ≠ sb v)) q l) (ho : Own 2 H v l.length (pcs q)) (hd : Dis q)
    (hB : B ≤ H.size) (hk1 : Keep Non H H1) (hkey : Own 1 H1 k p.1.length (bvs p.1)) (hf : Fresh H k)
    (hap : App 2 H1 H2 v v' l.length (pcs q) [k, .int .u64 p.2] 1) : Po B H2 v' (l ++ [p]) := by
  have hs1 := hk1.size
  have hltv : 0 < sc v → sb v < H.size := fun hc => ho.lt hc
  refine ⟨⟨q ++ [(k, p.2)], ?_, ?_, ?_⟩, ?_⟩
  · refine Pk.append (hk.mono fun u b hb => ⟨(hb.1.keep hk1 (fun _ h => h)).keep hap.keep (fun hc e => (hb.2 hc).2 e.1), fun hc => ⟨(hb.2 hc).1, ?_⟩⟩) (Pk.one ⟨hkey.keep hap.keep (fun hc e => ?_), fun hc => ?_⟩)
    · have hlt := hb.1.lt hc
      rcases hap.place with ⟨e1, _⟩ | ⟨e1, _⟩
      · rw [e1]; exact (hb.2 hc).2
      · rw [e1]; omega
    · have h4 : H.size ≤ sb k := hf hc
      have h5 := hltv (by omega)
      have h6 : sb k = sb v := e.1
      omega
    · have h4 : H.size ≤ sb k := hf hc
      have h4' : sb k < H1.size := hkey.lt hc
      refine ⟨by omega, ?_⟩
      rcases hap.place with ⟨e1, e2, e3, e4, _⟩ | ⟨e1, _⟩
      · have := hltv (by omega)
        rw [e1]; omega
      · rw [e1]; omega
  · rw [pcs_append, List.length_append]
    exact hap.own
  · have hlen := hk.len
    have old : ∀ (i : Nat) (x : Value × Int), q[i]? = some x → 0 < sc x.1 → sb x.1 < H.size := by
      intro i x hx hc
      have hi := (List.getElem?_eq_some_iff.1 hx).1
      obtain ⟨r, hr⟩ : ∃ r, l[i]? = some r := ⟨_, List.getElem?_eq_getElem (by omega)⟩
      exact (hk.at_ i x r hx hr).2.1.lt hc
    have new : ∀ (i : Nat) (x : Value × Int), ¬ i < q.length → (q ++ [(k, p.2)])[i]? = some x → i = q.length ∧ x = (k, p.2) := by
      intro i x hi hx
      have hi2 := (List.getElem?_eq_some_iff.1 hx).1
      simp at hi2
      have : i = q.length := by omega
      subst this
      simp at hx
      exact ⟨rfl, hx.symm⟩
    intro i j x y hx hy hne hcx hcy
    by_cases hi : i < q.length <;> by_cases hj : j < q.length
    · rw [List.getElem?_append_left hi] at hx
      rw [List.getElem?_append_left hj] at hy
      exact hd i j x y hx hy hne hcx hcy
    · obtain ⟨e1, rfl⟩ := new j y hj hy
      rw [List.getElem?_append_left hi] at hx
      have h1 := old i x hx hcx
      have h2 : H.size ≤ sb k := hf hcy
      show sb x.1 ≠ sb k
      omega
    · obtain ⟨e1, rfl⟩ := new i x hi hx
      rw [List.getElem?_append_left hj] at hy
      have h1 := old j y hy hcy
      have h2 : H.size ≤ sb k := hf hcx
      show sb k ≠ sb y.1
      omega
    · have := (new i x hi hx).1
      have := (new j y hj hy).1
      omega
  · intro hc
    rcases hap.place with ⟨e1, e2, e3, e4, _⟩ | ⟨e1, _⟩
    · rw [e1]; exact hfr (by omega)
    · rw [e1]; omega

theorem Own.stores {s : Nat} {H : Heap} {v : Value} {n : Nat} {cs : List Value} (h : Own s H v n cs) (q : Nat) (ds : List Value) (hd : ds.length = s) (hs : 0 < s) (hq : q < n) :
    ∃ l, Blk H (sb v) l ∧ so v + q * s + s ≤ l.length ∧ ∀ H', Blk H' (sb v) (putL l (so v + q * s) ds) → Own s H' v n (putL cs (q * s) ds) := by
  have hc : 0 < sc v := by have := h.sl.cap.1; omega
  obtain ⟨l, h1, h2, h3⟩ := h.row hc
  have hlen := h.len
  have hqs : q * s + s ≤ n * s := by
    have := Nat.mul_le_mul_right s (show q + 1 ≤ n by omega)
    rw [Nat.add_mul, Nat.one_mul] at this
    exact this
  have hns : n * s ≤ sc v * s := Nat.mul_le_mul_right s h.sl.cap.1
  refine ⟨l, h1, by omega, fun H' hB => ⟨h.sl, by rw [putL_length (by omega)]; exact hlen, fun _ => ⟨_, hB, by rw [putL_length (by omega)]; exact h2, ?_⟩⟩⟩
  apply List.ext_getElem?
  intro i
  rw [putL_length (by omega), List.getElem?_take, List.getElem?_drop, putL_get (by omega), putL_get (by omega)]
  have h3' : i < cs.length → l[so v + i]? = cs[i]? := by
    intro hi
    have := congrArg (fun z => z[i]?) h3
    simp only [List.getElem?_take, if_pos hi, List.getElem?_drop] at this
    exact this
  by_cases hi : i < cs.length
  · rw [if_pos hi]
    by_cases h4 : i < q * s
    · rw [if_pos (by omega), if_pos h4]
      exact h3' hi
    · rw [if_neg (by omega), if_neg h4]
      by_cases h5 : i < q * s + ds.length
      · rw [if_pos (by omega), if_pos h5]
        congr 1
        omega
      · rw [if_neg (by omega), if_neg h5]
        exact h3' hi
  · rw [if_neg hi, if_neg (by omega), if_neg (by omega), List.getElem?_eq_none (by omega)]
theorem putL_pcs (q : List (Value × Int)) (j : Nat) (x : Value × Int) (hj : j < q.length) : putL (pcs q) (j * 2) [x.1, .int .u64 x.2] = pcs (q.set j x) := by
  unfold putL
  have e : j * 2 + [x.1, Value.int .u64 x.2].length = (j + 1) * 2 := by simp; omega
  rw [e, pcs_take, pcs_drop, List.set_eq_take_append_cons_drop, if_pos hj, pcs_append, pcs_cons]
  simp
theorem two_oneC {v : Value} {kd : IntKind} {a : Int} (h : oneC v = true) : ∀ x ∈ [((0 : Nat), v), (1, Value.int kd a)], oneC x.2 = true := by
  intro x hx
  simp only [List.mem_cons, List.not_mem_nil, or_false] at hx
  rcases hx with rfl | rfl
  · exact h
  · rfl
theorem two_oneC' {v : Value} {kd : IntKind} {a : Int} (h : oneC v = true) : ∀ x ∈ [v, Value.int kd a], oneC x = true := by
  intro x hx
  simp only [List.mem_cons, List.not_mem_nil, or_false] at hx
  rcases hx with rfl | rfl
  · exact h
  · rfl

/-- a slot that holds a slice is no row of bytes, and no row of pairs -/
theorem bs_ne_slot {H : Heap} {k u : Value} {l : List UInt8} {b n : Nat} (h : Bs H k l) (hl : l ≠ []) (hB : Blk H b [u]) (hu : IsSl u n) : sb k ≠ b := by
  intro e
  have hpos : 0 < l.length := List.length_pos_iff.2 hl
  have := h.at_ 0 (by rw [bvs_length]; exact hpos)
  rw [e, hB.cel] at this
  have hso : so k = 0 := by
    have h2 := (List.getElem?_eq_some_iff.1 this).1
    simp at h2
    exact h2
  rw [hso] at this
  obtain ⟨a, c, rfl, _⟩ := hu
  cases l with
  | nil => exact hl rfl
  | cons x l => simp [bvs, bv] at this
theorem ps_ne_slot {H : Heap} {v u : Value} {l : List Pr} {b : Nat} (h : Ps H v l) (hl : l ≠ []) (hB : Blk H b [u]) : sb v ≠ b := by
  intro e
  cases l with
  | nil => exact hl rfl
  | cons p l =>
    obtain ⟨k, h1, h2, _⟩ := h.at_ 0 p rfl
    rw [e, hB.cel] at h2
    have := (List.getElem?_eq_some_iff.1 h2).1
    simp at this
theorem Bs.keep_slot {H H' : Heap} {k u : Value} {l : List UInt8} {b n : Nat} (h : Bs H k l) (hB : Blk H b [u]) (hu : IsSl u n) (hk : Keep (· = b) H H') : Bs H' k l :=
  h.keep hk (fun hl e => bs_ne_slot h hl hB hu e)
theorem Ps.keep_slot {H H' : Heap} {v u : Value} {l : List Pr} {b n : Nat} (h : Ps H v l) (hB : Blk H b [u]) (hu : IsSl u n) (hk : Keep (· = b) H H') : Ps H' v l := by
  obtain ⟨q, h1, h2⟩ := h.row
  refine ⟨h.sl, q, h1.mono fun _ _ hb => hb.keep_slot hB hu hk, h2.keep hk (fun hq e => ?_)⟩
  refine ps_ne_slot h (fun e => hq ?_) hB e
  subst e
  have := h1.len
  simp at this
  subst this
  rfl

theorem ps_of_new {H H' : Heap} {q : List (Value × Int)} {l : List Pr} (h : New H H' (pcs q)) (hk : Pk (Bs H') q l) (hl : l.length ≤ 1000000) : Ps H' (.slice (some ⟨H.size, 0, none⟩) l.length l.length) l := by
  refine ⟨isSl_some (Nat.le_refl _) (by omega), q, hk, ?_⟩
  have := h.blk.cels 0 (pcs q).length (by rw [Nat.zero_add]; exact Nat.le_refl _)
  rw [List.drop_zero, List.take_of_length_le (Nat.le_refl _)] at this
  exact this

/-- a parameter that is a row of pairs -/
theorem open_pairs {H : Type} {enc : TypeId × Value → H} {P : Program} {w : World} {base : Nat} {held : Bool} {t e tb te : TypeId} {f0 f1 : Field} {fuel : Nat} {a : Option Addr} {len cap : Nat} {x : DataW H × List MemPlace}
    (ht : P.underlying t = some (.slice e)) (he : P.underlying e = some (.struct #[f0, f1])) (ce : P.cellsOf e = 2) (o0 : f0.offset = 0) (o1 : f1.offset = 1) (c0 : P.cellsOf f0.type = 1) (c1 : P.cellsOf f1.type = 1)
    (h0 : P.underlying f0.type = some (.slice tb)) (h0' : P.underlying tb = some (.int .u8)) (h0c : P.cellsOf tb = 1) (h1 : P.underlying f1.type = some (.int .u64))
    (h : DataW.trod enc P w base (fun _ => true) held fuel t [.slice a len cap] = some x) :
    ∃ l : List Pr, l.length = len ∧ Ps w.heap (.slice a len cap) l := by
  rcases Go.Deep.open_slice_pairs ht he ce o0 o1 c0 c1 h with ⟨hcs, _⟩ | ⟨ad, ln, cp, m, n, V0, V1, D0, D1, P0, P1, hcs, hb, hl, hm, hmm, _, hx⟩
  · simp at hcs
    obtain ⟨rfl, rfl, rfl⟩ := hcs
    exact ⟨[], rfl, Ps.nil _⟩
  · simp at hcs
    obtain ⟨rfl, rfl, rfl⟩ := hcs
    simp only [if_true] at hmm
    subst hmm
    have hspot : m = 0 ∨ ∃ b o, (some ad : Option Addr) = some ⟨b, o, none⟩ := by
      rcases Nat.eq_zero_or_pos m with h0 | h0
      · exact .inl h0
      · right
        have h1 := (hx 0 (by omega)).1
        have e0 : ad.add (0 * 2) = ad := by simp [Addr.add]
        rw [e0] at h1
        obtain ⟨b, o, s⟩ := ad
        cases s with
        | none => exact ⟨b, o, rfl⟩
        | some s =>
          unfold World.cell? at h1
          split at h1 <;> simp at h1
    have hmax : m ≤ 9223372036854775807 := by unfold maxLen at hm; exact hm
    have each : ∀ i, i < m → ∃ p : Pr, V1 i = .int .u64 p.2 ∧ Bs w.heap (V0 i) p.1 := by
      intro i hi
      obtain ⟨_, _, r0, r1⟩ := hx i hi
      obtain ⟨z, hz, _⟩ := DataW.trod_int h1 r1
      simp only [List.cons.injEq, and_true] at hz
      have hform : ∃ a' l' c', V0 i = .slice a' l' c' := by
        rcases DataW.trod_slice h0 r0 with ⟨e, _⟩ | ⟨a', l', c', _, _, _, _, e, _⟩
        · simp at e; exact ⟨_, _, _, e⟩
        · simp at e; exact ⟨_, _, _, e⟩
      obtain ⟨a', l', c', hv⟩ := hform
      rw [hv] at r0 ⊢
      obtain ⟨zs, hzl, hzs, hzc, hzw⟩ := open_row h0 h0' h0c r0
      obtain ⟨b, hb, _⟩ := bs_of_row (by rw [hzl]; exact hzs) hzc hzw
      exact ⟨(b, z), hz, hb⟩
    obtain ⟨p, hp⟩ := Go.Deep.choose_lt each
    refine ⟨(List.range len).map p, by simp, ⟨by simpa using ⟨some ad, m, rfl, hl, hmax, hspot⟩, (List.range len).map fun i => (V0 i, (p i).2), ⟨by simp, ?_⟩, ?_⟩⟩
    · intro i y r hy hr
      simp only [List.getElem?_map, Option.map_eq_some_iff] at hy hr
      obtain ⟨j, hj, rfl⟩ := hy
      obtain ⟨j', hj', rfl⟩ := hr
      rw [hj] at hj'
      cases hj'
      have : j < len := by
        have := List.mem_of_getElem? hj
        simpa using this
      exact ⟨rfl, (hp j (by omega)).2⟩
    · rcases hspot with h0 | ⟨b, o, e⟩
      · have : len = 0 := by omega
        subst this
        exact Cels.nil _ _ _
      · simp only [Option.some.injEq] at e
        subst e
        intro j hj
        rw [pcs_length, List.length_map, List.length_range] at hj
        have hq : ((List.range len).map fun i => (V0 i, (p i).2))[j / 2]? = some (V0 (j / 2), (p (j / 2)).2) := by
          rw [List.getElem?_map, List.getElem?_range (by omega)]
          rfl
        obtain ⟨g1, g2⟩ := pcs_get _ _ _ hq
        obtain ⟨k1, k2, _, _⟩ := hx (j / 2) (by omega)
        rw [addr_add, cell_heap] at k1 k2
        rw [← List.getElem?_eq_getElem]
        simp only [sb, so]
        have hj2 : j = j / 2 * 2 ∨ j = j / 2 * 2 + 1 := by omega
        rcases hj2 with e | e
        · rw [e, g1]
          exact k1
        · rw [e, g2]
          simp only
          rw [← (hp (j / 2) (by omega)).1]
          exact k2
end Go.Proofs.YtbcflfkajkmkdaaDoor.X
namespace Go.Proofs.YtbcflfkajkmkdaaDoor.X
open Go
set_option linter.unusedVariables false
set_option linter.unusedSimpArgs false
section ops
variable {P : Program} {n : Nat} {B : Exit → Act → World → Prop} {w0 : World} {md : Md} {ops : List Oper} {rest : OT} {k : K} {σ : Sl} {H : Heap} {i : Nat}
variable {d : Nat} {ty : TypeId} {pos : String} {after : Array Edge} {g : Option (Nat × Bool)}
/-- a load that stands among the effects of a drawn region: it yields what stands there now -/
theorem x_load_e {t b o : Nat} {x : Operand} {v : Value} [hT : One P t] (hg : gd ops σ g = some true) (hx : evo σ x = some (ptr b o)) (hc : cel H b o = some v) (hd : dstOk (some d) n = true) (he : okE ops md i ⟨some d, .load t x, ty, pos, after, g⟩)
    (h : XW P n B w0 md ops rest k ((d, v) :: σ) H) : XW P n B w0 md ops (.op i ⟨some d, .load t x, ty, pos, after, g⟩ rest) k σ H := by
  refine x_eff (E := fun u H' => u = v ∧ H' = H) he hg hd (fun a w ha hw N Q hN => ?_) (fun u H' ⟨e1, e2⟩ => by
    subst e1 e2
    refine ⟨?_, h⟩
    cases md with
    | text => trivial
    | quiet => trivial
    | held Cs ri => exact fun c _ h => h
    | fen r => trivial
    | mrk ds => trivial)
  have hc' : cel w.heap b o = some v := by rw [hw.heap]; exact hc
  have e1 : (execOp a.eval ⟨some d, .load t x, ty, pos, after, g⟩).run P w = .ok (.value v) w := by
    simp [execOp, Instr.loadAt, Instr.sureAddr, loadVar, ha.evo hx, run_isAgg_one hT, cell_heap, hc']
  rw [e1, Oper.upon_value]
  exact hN v w ⟨rfl, hw.os, hw.tape, hw.output⟩ ⟨rfl, hw.heap⟩
end ops
end Go.Proofs.YtbcflfkajkmkdaaDoor.X
namespace Go.Proofs.YtbcflfkajkmkdaaDoor.X
open Go
set_option linter.unusedVariables false
set_option linter.unusedSimpArgs false

/-! ### rows of structs, of whatever cells -/
/-- two lists, place by place -/
structure Al {α β : Type} (R : α → β → Prop) (q : List α) (l : List β) : Prop where
  len : q.length = l.length
  at_ : ∀ (i : Nat) (x : α) (p : β), q[i]? = some x → l[i]? = some p → R x p
section al
variable {α β : Type} {R R' : α → β → Prop} {q q' : List α} {l l' : List β}
theorem Al.nil (R : α → β → Prop) : Al R [] [] := ⟨rfl, fun i x p hx => by simp at hx⟩
theorem Al.mono (h : Al R q l) (hm : ∀ x p, R x p → R' x p) : Al R' q l := ⟨h.len, fun i x p hx hp => hm _ _ (h.at_ i x p hx hp)⟩
theorem Al.monoAt (h : Al R q l) (hm : ∀ (i : Nat) x p, q[i]? = some x → l[i]? = some p → R x p → R' x p) : Al R' q l := ⟨h.len, fun i x p hx hp => hm i _ _ hx hp (h.at_ i x p hx hp)⟩
theorem Al.append (h : Al R q l) (h' : Al R q' l') : Al R (q ++ q') (l ++ l') := by
  have hl := h.len
  refine ⟨by simp [h.len, h'.len], fun i x p hx hp => ?_⟩
  by_cases hi : i < l.length
  · rw [List.getElem?_append_left (by omega)] at hx
    rw [List.getElem?_append_left hi] at hp
    exact h.at_ i x p hx hp
  · rw [List.getElem?_append_right (by omega)] at hx hp
    rw [h.len] at hx
    exact h'.at_ _ x p hx hp
theorem Al.one {x : α} {p : β} (h : R x p) : Al R [x] [p] := ⟨rfl, fun i y p' hx hp => by
  cases i with
  | zero => simp at hx hp; subst hx hp; exact h
  | succ i => simp at hx⟩
theorem Al.take (h : Al R q l) (n : Nat) : Al R (q.take n) (l.take n) :=
  ⟨by simp [h.len], fun i x p hx hp => by
    rw [List.getElem?_take] at hx hp
    split at hx
    · rename_i hi
      rw [if_pos hi] at hp
      exact h.at_ i x p hx hp
    · cases hx⟩
theorem Al.drop (h : Al R q l) (n : Nat) : Al R (q.drop n) (l.drop n) :=
  ⟨by simp [h.len], fun i x p hx hp => by
    rw [List.getElem?_drop] at hx hp
    exact h.at_ _ x p hx hp⟩
theorem Al.set (h : Al R q l) (j : Nat) {x : α} {p : β} (hr : R x p) : Al R (q.set j x) (l.set j p) :=
  ⟨by simp [h.len], fun i y r hy hr' => by
    have hi := (List.getElem?_eq_some_iff.1 hy).1
    have hi' := (List.getElem?_eq_some_iff.1 hr').1
    simp at hi hi'
    by_cases hj : j = i
    · subst hj
      rw [List.getElem?_set_self (by omega)] at hy hr'
      cases hy
      cases hr'
      exact hr
    · rw [List.getElem?_set_ne hj] at hy hr'
      exact h.at_ i y r hy hr'⟩
theorem Al.get (h : Al R q l) {i : Nat} {p : β} (hp : l[i]? = some p) : ∃ x, q[i]? = some x ∧ R x p := by
  have hi := (List.getElem?_eq_some_iff.1 hp).1
  have := h.len
  exact ⟨_, List.getElem?_eq_getElem (by omega), h.at_ i _ p (List.getElem?_eq_getElem (by omega)) hp⟩
end al

section rws
variable {α : Type} (enc : α → List Value) (s : Nat)
/-- the cells of a row -/
def rws (q : List α) : List Value := q.flatMap enc
theorem rws_nil : rws enc [] = [] := rfl
theorem rws_cons (x : α) (q : List α) : rws enc (x :: q) = enc x ++ rws enc q := by simp [rws]
theorem rws_append (q r : List α) : rws enc (q ++ r) = rws enc q ++ rws enc r := by simp [rws]
theorem rws_one (x : α) : rws enc [x] = enc x := by simp [rws]
variable {enc s} (hs : ∀ x, (enc x).length = s)
include hs
theorem rws_length (q : List α) : (rws enc q).length = q.length * s := by
  induction q with
  | nil => simp [rws]
  | cons x q ih => rw [rws_cons, List.length_append, hs, ih, List.length_cons, Nat.add_mul, Nat.one_mul, Nat.add_comm]
theorem rws_get {q : List α} {i : Nat} {x : α} (h : q[i]? = some x) (j : Nat) (hj : j < s) : (rws enc q)[i * s + j]? = (enc x)[j]? := by
  induction q generalizing i with
  | nil => simp at h
  | cons y q ih =>
    rw [rws_cons]
    cases i with
    | zero =>
      simp at h
      subst h
      rw [Nat.zero_mul, Nat.zero_add, List.getElem?_append_left (by rw [hs]; exact hj)]
    | succ i =>
      simp at h
      rw [Nat.add_mul, Nat.one_mul, List.getElem?_append_right (by rw [hs]; omega), hs, ← ih h]
      congr 1
      omega
theorem rws_take (q : List α) (n : Nat) : (rws enc q).take (n * s) = rws enc (q.take n) := by
  induction q generalizing n with
  | nil => simp [rws]
  | cons x q ih =>
    cases n with
    | zero => simp [rws]
    | succ n =>
      rw [rws_cons, List.take_succ_cons, rws_cons, List.take_append, hs, Nat.add_mul, Nat.one_mul, Nat.add_sub_cancel, ih, List.take_of_length_le (by rw [hs]; omega)]
theorem rws_drop (q : List α) (n : Nat) : (rws enc q).drop (n * s) = rws enc (q.drop n) := by
  induction q generalizing n with
  | nil => simp [rws]
  | cons x q ih =>
    cases n with
    | zero => simp [rws]
    | succ n =>
      rw [rws_cons, List.drop_succ_cons, List.drop_append, hs, Nat.add_mul, Nat.one_mul, Nat.add_sub_cancel, ih, List.drop_of_length_le (by rw [hs]; omega), List.nil_append]
theorem rws_put (q : List α) (j : Nat) (x : α) (hj : j < q.length) : putL (rws enc q) (j * s) (enc x) = rws enc (q.set j x) := by
  unfold putL
  have e : j * s + (enc x).length = (j + 1) * s := by rw [hs, Nat.add_mul, Nat.one_mul]
  rw [e, rws_take hs, rws_drop hs, List.set_eq_take_append_cons_drop, if_pos hj, rws_append, rws_cons, List.append_assoc]
theorem rws_set (q : List α) (j k : Nat) (x y : α) (v : Value) (hj : q[j]? = some x) (hk : k < s) (hy : enc y = (enc x).set k v) : (rws enc q).set (j * s + k) v = rws enc (q.set j y) := by
  induction q generalizing j with
  | nil => simp at hj
  | cons z q ih =>
    rw [rws_cons]
    cases j with
    | zero =>
      simp at hj
      subst hj
      rw [Nat.zero_mul, Nat.zero_add, List.set_cons_zero, rws_cons, hy, List.set_append_left _ _ (by rw [hs]; exact hk)]
    | succ j =>
      simp at hj
      rw [List.set_cons_succ, rws_cons, ← ih j hj, List.set_append_right _ _ (by rw [hs, Nat.add_mul, Nat.one_mul]; omega), hs]
      congr 2
      rw [Nat.add_mul, Nat.one_mul]
      omega
end rws

theorem rws_oneC {α : Type} {enc : α → List Value} {q : List α} (h : ∀ x ∈ q, ∀ v ∈ enc x, oneC v = true) : ∀ v ∈ rws enc q, oneC v = true := by
  intro v hv
  obtain ⟨x, h1, h2⟩ := List.mem_flatMap.1 hv
  exact h x h1 v h2
theorem oc_nil : ∀ x ∈ ([] : List Value), oneC x = true := fun x hx => by cases hx
theorem oc_cons {a : Value} {l : List Value} (h : oneC a = true) (t : ∀ x ∈ l, oneC x = true) : ∀ x ∈ a :: l, oneC x = true := fun x hx => by
  rcases List.mem_cons.1 hx with rfl | hx
  · exact h
  · exact t x hx
theorem ocp_nil : ∀ x ∈ ([] : List (Nat × Value)), oneC x.2 = true := fun x hx => by cases hx
theorem ocp_cons {i : Nat} {a : Value} {l : List (Nat × Value)} (h : oneC a = true) (t : ∀ x ∈ l, oneC x.2 = true) : ∀ x ∈ (i, a) :: l, oneC x.2 = true := fun x hx => by
  rcases List.mem_cons.1 hx with rfl | hx
  · exact h
  · exact t x hx
/-- rows of numbers of 32 bits -/
def encU (h : Nat) : List Value := [.int .u32 (h : Nat)]
theorem encU_len (h : Nat) : (encU h).length = 1 := rfl

/-- a slice whose row may be read: each place as R says -/
structure Rd {α β : Type} (enc : α → List Value) (R : α → β → Prop) (H : Heap) (v : Value) (l : List β) : Prop where
  sl : IsSl v l.length
  row : ∃ q, Al R q l ∧ Cels H (sb v) (so v) (rws enc q)
/-- a slice of the call's own -/
structure Rw {α β : Type} (enc : α → List Value) (s : Nat) (R : α → β → Prop) (H : Heap) (v : Value) (l : List β) : Prop where
  row : ∃ q, Al R q l ∧ Own s H v l.length (rws enc q)
section rw_
variable {α β : Type} {enc : α → List Value} {s : Nat} {R R' : α → β → Prop} {H H' : Heap} {v : Value} {l : List β}
theorem Rw.sl (h : Rw enc s R H v l) : IsSl v l.length := let ⟨_, _, h2⟩ := h.row; h2.sl
theorem Rw.rd (h : Rw enc s R H v l) : Rd enc R H v l := let ⟨q, h1, h2⟩ := h.row; ⟨h2.sl, q, h1, h2.cels⟩
theorem Rw.lt (h : Rw enc s R H v l) (hc : 0 < sc v) : sb v < H.size := let ⟨_, _, h2⟩ := h.row; h2.lt hc
theorem Rw.nil (enc : α → List Value) (s : Nat) (R : α → β → Prop) (H : Heap) : Rw enc s R H (.slice none 0 0) [] := ⟨[], Al.nil R, by rw [rws_nil]; exact Own.nil s H⟩
theorem Rd.nil (enc : α → List Value) (R : α → β → Prop) (H : Heap) : Rd enc R H (.slice none 0 0) [] := ⟨isSl_nil, [], Al.nil R, Cels.nil _ _ _⟩
theorem Rw.mono (h : Rw enc s R H v l) (hm : ∀ x p, R x p → R' x p) : Rw enc s R' H v l := let ⟨q, h1, h2⟩ := h.row; ⟨q, h1.mono hm, h2⟩
theorem Rd.mono (h : Rd enc R H v l) (hm : ∀ x p, R x p → R' x p) : Rd enc R' H v l := let ⟨q, h1, h2⟩ := h.row; ⟨h.sl, q, h1.mono hm, h2⟩
theorem Rw.keep {S : Nat → Prop} (h : Rw enc s R H v l) (k : Keep S H H') (hn : 0 < sc v → ¬ S (sb v)) : Rw enc s R H' v l :=
  let ⟨q, h1, h2⟩ := h.row; ⟨q, h1, h2.keep k hn⟩
theorem Rd.keep {S : Nat → Prop} (h : Rd enc R H v l) (k : Keep S H H') (hn : l ≠ [] → ¬ S (sb v)) : Rd enc R H' v l := by
  obtain ⟨q, h1, h2⟩ := h.row
  refine ⟨h.sl, q, h1, h2.keep k (fun e => hn (fun e' => e ?_))⟩
  subst e'
  have := h1.len
  simp at this
  subst this
  rfl
theorem Rd.keepN (h : Rd enc R H v l) (k : Keep Non H H') : Rd enc R H' v l := h.keep k (fun _ h => h)
theorem Rw.keepN (h : Rw enc s R H v l) (k : Keep Non H H') : Rw enc s R H' v l := h.keep k (fun _ h => h)
/-- cell j of the i-th -/
theorem Rd.cel (h : Rd enc R H v l) (hs : ∀ x, (enc x).length = s) {i : Nat} {p : β} (hp : l[i]? = some p) : ∃ x, R x p ∧ ∀ j, j < s → X.cel H (sb v) (so v + i * s + j) = (enc x)[j]? := by
  obtain ⟨q, h1, h2⟩ := h.row
  obtain ⟨x, hx, hr⟩ := h1.get hp
  refine ⟨x, hr, fun j hj => ?_⟩
  have hi := (List.getElem?_eq_some_iff.1 hx).1
  have hlt : i * s + j < (rws enc q).length := by
    rw [rws_length hs]
    have := Nat.mul_le_mul_right s (show i + 1 ≤ q.length by omega)
    rw [Nat.add_mul, Nat.one_mul] at this
    omega
  have := h2 (i * s + j) hlt
  rw [← Nat.add_assoc] at this
  rw [this, ← List.getElem?_eq_getElem, rws_get hs hx j hj]
theorem Rd.cels (h : Rd enc R H v l) (hs : ∀ x, (enc x).length = s) {i : Nat} {p : β} (hp : l[i]? = some p) : ∃ x, R x p ∧ Cels H (sb v) (so v + i * s) (enc x) := by
  obtain ⟨x, hr, hc⟩ := h.cel hs hp
  exact ⟨x, hr, fun j hj => by rw [hc j (by rw [hs] at hj; exact hj), List.getElem?_eq_getElem]⟩
theorem Rd.cut {u : Value} {a b : Nat} (h : Rd enc R H v l) (hs : ∀ x, (enc x).length = s) (hu : IsSl u (b - a)) (hc : CutOf u v a s) (hab : a ≤ b) (hb : b ≤ l.length) : Rd enc R H u ((l.take b).drop a) := by
  obtain ⟨q, h1, h2⟩ := h.row
  refine ⟨by simpa [Nat.min_eq_left hb] using hu, (q.take b).drop a, (h1.take b).drop a, ?_⟩
  by_cases he : a = b
  · subst he
    have : (q.take a).drop a = [] := by simp
    rw [this]
    exact Cels.nil _ _ _
  · have hlt : a < sc v := by have := h.sl.cap.1; omega
    obtain ⟨e1, e2⟩ := hc.at_ hlt
    rw [e1, e2, ← rws_drop hs, ← rws_take hs]
    exact (h2.take (b * s)).drop (a * s)
/-- v[:b] of the call's own -/
theorem Rw.shrink {u : Value} {b : Nat} (h : Rw enc s R H v l) (hs : ∀ x, (enc x).length = s) (hu : IsSl u b) (hc : CutOf u v 0 s) (hb : b ≤ l.length) : Rw enc s R H u (l.take b) := by
  obtain ⟨q, h1, h2⟩ := h.row
  have hcap := hc.cap
  have hlen := h2.len
  refine ⟨q.take b, h1.take b, by simpa [Nat.min_eq_left hb] using hu, ?_, fun h0 => ?_⟩
  · rw [rws_length hs, (h1.take b).len]
  · have h0' : 0 < sc v := by omega
    obtain ⟨e1, e2⟩ := hc.at_ h0'
    obtain ⟨r, hB, hle, htk⟩ := h2.row h0'
    rw [Nat.zero_mul, Nat.add_zero] at e2
    refine ⟨r, by rw [e1]; exact hB, by rw [e2, hcap, Nat.sub_zero]; exact hle, ?_⟩
    have e3 : (rws enc q).take (b * s) = (r.drop (so v)).take (min (b * s) (rws enc q).length) := by
      conv => lhs; rw [← htk]
      rw [List.take_take]
    rw [e2, ← rws_take hs, List.length_take]
    exact e3.symm
/-- the block of a row of one's own, to store into -/
theorem Rw.blk (h : Rw enc s R H v l) (hc : 0 < sc v) : ∃ r, Blk H (sb v) r ∧ so v + sc v * s ≤ r.length := by
  obtain ⟨q, h1, h2⟩ := h.row
  obtain ⟨r, a, b, _⟩ := h2.row hc
  exact ⟨r, a, b⟩
/-- a whole place is stored -/
theorem Rw.put (h : Rw enc s R H v l) (hs : ∀ x, (enc x).length = s) (hs0 : 0 < s) {j : Nat} (hj : j < l.length) :
    ∃ r, Blk H (sb v) r ∧ so v + j * s + s ≤ r.length ∧ ∀ H' x p, R x p → Blk H' (sb v) (putL r (so v + j * s) (enc x)) → Rw enc s R H' v (l.set j p) := by
  obtain ⟨q, h1, h2⟩ := h.row
  have hc : 0 < sc v := by have := h2.sl.cap.1; omega
  obtain ⟨r, hB, hle, htk⟩ := h2.row hc
  have hlen := h2.len
  have hjs : j * s + s ≤ l.length * s := by
    have := Nat.mul_le_mul_right s (show j + 1 ≤ l.length by omega)
    rw [Nat.add_mul, Nat.one_mul] at this
    exact this
  have hns : l.length * s ≤ sc v * s := Nat.mul_le_mul_right s h2.sl.cap.1
  refine ⟨r, hB, by omega, fun H' x p hr hB' => ⟨q.set j x, h1.set j hr, ?_⟩⟩
  obtain ⟨r', hB2, hle2, hall⟩ := h2.stores j (enc x) (hs x) hs0 hj
  have : r' = r := hB2.uniq hB
  subst this
  have := hall H' hB'
  rw [rws_put hs q j x (by rw [h1.len]; exact hj)] at this
  rw [List.length_set]
  exact this
/-- one cell of a place is stored -/
theorem Rw.put1 (h : Rw enc s R H v l) (hs : ∀ x, (enc x).length = s) {j k : Nat} (hk : k < s) (hj : j < l.length) :
    ∃ r, Blk H (sb v) r ∧ so v + j * s + k < r.length ∧ ∀ p0, l[j]? = some p0 → ∃ x, R x p0 ∧ (∀ i, i < s → X.cel H (sb v) (so v + j * s + i) = (enc x)[i]?) ∧ ∀ H' y p w, enc y = (enc x).set k w → R y p → Blk H' (sb v) (r.set (so v + j * s + k) w) → Rw enc s R H' v (l.set j p) := by
  obtain ⟨q, h1, h2⟩ := h.row
  have hjs : j * s + s ≤ l.length * s := by
    have := Nat.mul_le_mul_right s (show j + 1 ≤ l.length by omega)
    rw [Nat.add_mul, Nat.one_mul] at this
    exact this
  have hlen := h2.len
  obtain ⟨r, hB, hle, hall⟩ := h2.store (j * s + k) (by omega)
  refine ⟨r, hB, by omega, fun p0 hp0 => ?_⟩
  obtain ⟨x, hx, hr⟩ := h1.get hp0
  refine ⟨x, hr, fun i hi => ?_, fun H' y p w hy hrp hB' => ⟨q.set j y, h1.set j hrp, ?_⟩⟩
  · have := h2.cels (j * s + i) (by omega)
    rw [← Nat.add_assoc] at this
    rw [this, ← List.getElem?_eq_getElem, rws_get hs hx i hi]
  rw [Nat.add_assoc] at hB'
  have := hall H' w hB'
  rw [rws_set hs q j k x y w hx hk hy] at this
  rw [List.length_set]
  exact this
/-- more at the end -/
theorem Rw.app {v' : Value} {m : Nat} {q : List α} {q' : List α} {l' : List β} (h1 : Al R q l) (hl : l'.length = m) (h' : Al R q' l') (hm : ∀ x p, R x p → R' x p) (ha : App s H H' v v' l.length (rws enc q) (rws enc q') m) : Rw enc s R' H' v' (l ++ l') := by
  refine ⟨q ++ q', (h1.append h').mono hm, ?_⟩
  rw [rws_append, List.length_append, hl]
  exact ha.own
theorem pos_of' (h : Rw enc s R H v l) (hx : l ≠ []) : 0 < sc v := by
  have := List.length_pos_iff.2 hx
  have := h.sl.cap.1
  omega
theorem pos_of (h : Rw enc s R H v l) {i : Nat} {x : β} (hx : l[i]? = some x) : 0 < sc v := by
  have := (List.getElem?_eq_some_iff.1 hx).1
  have := h.sl.cap.1
  omega
end rw_
/-- a row of one cell each -/
theorem Rd.cel1 {α β : Type} {enc : α → List Value} {R : α → β → Prop} {H : Heap} {v : Value} {l : List β} (h : Rd enc R H v l) (hs : ∀ x, (enc x).length = 1) {i : Nat} {p : β} (hp : l[i]? = some p) : ∃ x, R x p ∧ X.cel H (sb v) (so v + i) = (enc x)[0]? := by
  obtain ⟨x, h1, h2⟩ := h.cel hs hp
  refine ⟨x, h1, ?_⟩
  have := h2 0 (by omega)
  rwa [Nat.mul_one, Nat.add_zero] at this

end Go.Proofs.YtbcflfkajkmkdaaDoor.X
namespace Go.Proofs.YtbcflfkajkmkdaaDoor.X
open Go
set_option linter.unusedVariables false
set_option linter.unusedSimpArgs false

/-! ### what part a block plays in a structure: 0 none -/
abbrev Role := Nat → Nat
def Role.set (K : Role) (b r : Nat) : Role := fun c => if c = b then r else K c
theorem Role.set_at (K : Role) (b r : Nat) : K.set b r b = r := by simp [Role.set]
theorem Role.set_ne (K : Role) {b c r : Nat} (h : c ≠ b) : K.set b r c = K c := by simp [Role.set, h]
/-- only blocks that there are play a part -/
def Role.In (K : Role) (H : Heap) : Prop := ∀ b, K b ≠ 0 → b < H.size
/-- new blocks alone have taken parts -/
structure Role.Ext (K K' : Role) (H H' : Heap) : Prop where
  old : ∀ b, b < H.size → K' b = K b
  size : H.size ≤ H'.size
theorem Role.In.set {K : Role} {H : Heap} (h : K.In H) {b r : Nat} (hb : b < H.size) : (K.set b r).In H := fun c hc => by
  by_cases e : c = b
  · subst e; exact hb
  · rw [Role.set_ne K e] at hc; exact h c hc
theorem Role.In.mono {K : Role} {H H' : Heap} (h : K.In H) (hs : H.size ≤ H'.size) : K.In H' := fun c hc => Nat.lt_of_lt_of_le (h c hc) hs
theorem Role.Ext.refl (K : Role) (H : Heap) : K.Ext K H H := ⟨fun _ _ => rfl, Nat.le_refl _⟩
theorem Role.Ext.set {K K' : Role} {H H' : Heap} (h : K.Ext K' H H') {b r : Nat} (hb : H.size ≤ b) : K.Ext (K'.set b r) H H' :=
  ⟨fun c hc => by rw [Role.set_ne _ (by omega)]; exact h.old c hc, h.size⟩
theorem Role.Ext.mono {K K' : Role} {H H' H'' : Heap} (h : K.Ext K' H H') (hs : H'.size ≤ H''.size) : K.Ext K' H H'' := ⟨h.old, Nat.le_trans h.size hs⟩
theorem Role.Ext.trans {K K' K'' : Role} {H H' H'' : Heap} (h : K.Ext K' H H') (h' : K'.Ext K'' H' H'') : K.Ext K'' H H'' :=
  ⟨fun b hb => (h'.old b (Nat.lt_of_lt_of_le hb h.size)).trans (h.old b hb), Nat.le_trans h.size h'.size⟩
theorem Role.In.off {K : Role} {H : Heap} (h : K.In H) {b : Nat} (hb : H.size ≤ b) : K b = 0 := by
  by_cases e : K b = 0
  · exact e
  · have := h b e
    omega
/-- all of it stands from block B on -/
def Role.From (K : Role) (B : Nat) : Prop := ∀ x, K x ≠ 0 → B ≤ x
theorem Role.From.ext {K K' : Role} {B : Nat} {H H' : Heap} (h : K.From B) (he : K.Ext K' H H') (hs : B ≤ H.size) : K'.From B := fun x hx => by
  by_cases hlt : x < H.size
  · rw [he.old x hlt] at hx
    exact h x hx
  · omega
theorem Role.From.keep {K : Role} {S : Nat → Prop} {H0 H H' : Heap} (h : K.From H0.size) (hk : Keep Non H0 H) (hm : Keep S H H') (hS : ∀ x, S x → K x ≠ 0) : Keep Non H0 H' :=
  hk.old hm (fun b hb e => by have := h b (hS b e); omega)
theorem Role.From.mono {K : Role} {B B' : Nat} (h : K.From B) (hb : B' ≤ B) : K.From B' := fun x hx => Nat.le_trans hb (h x hx)
/-- two structures share no block -/
def Role.Off (K G : Role) : Prop := ∀ b, K b ≠ 0 → G b = 0
theorem Role.Off.symm {K G : Role} (h : K.Off G) : G.Off K := fun b hb => by
  by_cases e : K b = 0
  · exact e
  · exact absurd (h b e) hb
theorem Role.Off.ext {K K' G : Role} {H H' : Heap} (h : K.Off G) (hG : G.In H) (he : K.Ext K' H H') : K'.Off G := fun b hb => by
  by_cases hlt : b < H.size
  · rw [he.old b hlt] at hb
    exact h b hb
  · by_cases e : G b = 0
    · exact e
    · exact absurd (hG b e) hlt
/-- what a call that turns only such a structure keeps -/
theorem Role.Off.keep {K G : Role} {S : Nat → Prop} {H H' : Heap} (h : K.Off G) (hk : Keep S H H') (hS : ∀ b, S b → K b ≠ 0) : ∀ b, G b ≠ 0 → ¬ S b := fun b hb hs => hb (h b (hS b hs))
/-- an append to a row that plays part r: what it makes plays it too -/
structure AppRole (K K' : Role) (H H' : Heap) (v v' : Value) (r : Nat) : Prop where
  kin : K'.In H'
  same : ∀ x, K x ≠ 0 → K' x = K x
  old : ∀ x, x < H.size → K' x = K x
  keep : Keep (fun x => x = sb v ∧ 0 < sc v) H H'
  at_ : K' (sb v') = r
  lt : sb v' < H'.size
  role : ∀ x, K x ≠ 0 → K x ≠ r → ¬ (x = sb v ∧ 0 < sc v)
theorem app_role {K : Role} {s : Nat} {H H' : Heap} {v v' : Value} {n m r : Nat} {cs cx : List Value} (h : App s H H' v v' n cs cx m) (hm : 0 < m) (hK : K.In H) (hr : 0 < sc v → K (sb v) = r) : AppRole K (K.set (sb v') r) H H' v v' r := by
  have h0 := h.own.sl.cap.1
  have hlt := h.own.lt (by omega)
  have hp : (sb v' = sb v ∧ 0 < sc v) ∨ H.size ≤ sb v' := by
    rcases h.place with ⟨e1, e2, e3, e4, _⟩ | ⟨e1, _⟩
    · exact .inl ⟨e1, by omega⟩
    · exact .inr (by rw [e1]; exact Nat.le_refl _)
  have hold : ∀ x, x < H.size → (K.set (sb v') r) x = K x := fun x hx => by
    by_cases e : x = sb v'
    · rcases hp with ⟨e1, e2⟩ | e1
      · rw [e, Role.set_at, e1, hr e2]
      · omega
    · exact Role.set_ne K e
  exact ⟨(hK.mono h.keep.size).set hlt, fun x hx => hold x (hK x hx), hold, h.keep.mono (fun x _ e => ⟨e.1, by omega⟩), Role.set_at _ _ _, hlt, fun x _ hx e => hx (by rw [e.1]; exact hr e.2)⟩
end Go.Proofs.YtbcflfkajkmkdaaDoor.X
namespace Go.Proofs.YtbcflfkajkmkdaaDoor.X
open Go
set_option linter.unusedVariables false
set_option linter.unusedSimpArgs false

/-! ### parameters that are rows of structs, of rows -/
section
variable {Hh : Type} {enc : TypeId × Value → Hh} {P : Program} {w : World} {base : Nat} {held : Bool}

theorem open_rows {α β : Type} [Inhabited α] [Inhabited β] {ea : α → List Value} {s : Nat} {R : α → β → Prop} {t e : TypeId} {fuel : Nat} {cs : List Value} {x : DataW Hh × List MemPlace}
    (ht : P.underlying t = some (.slice e)) (hc : P.cellsOf e = s) (hs0 : 0 < s) (hs : ∀ x, (ea x).length = s)
    (hE : ∀ fuel cs x, DataW.trod enc P w base (fun _ => true) held fuel e cs = some x → ∃ a y, cs = ea a ∧ R a y)
    (h : DataW.trod enc P w base (fun _ => true) held fuel t cs = some x) :
    ∃ v l, cs = [v] ∧ Rd ea R w.heap v l := by
  rcases Go.Deep.open_slice ht h with ⟨hcs, _⟩ | ⟨ad, ln, cp, m, n, D, Pl, hcs, hb, hl, hm, hmm, _, hx⟩
  · exact ⟨_, [], hcs, Rd.nil _ _ _⟩
  · simp only [if_true] at hmm
    subst hmm
    have hmax : m ≤ 9223372036854775807 := by unfold maxLen at hm; exact hm
    have each : ∀ i, i < m → ∃ p : α × β, (∀ j, j < s → w.cell? ((ad.add (i * s)).add j) = (ea p.1)[j]?) ∧ R p.1 p.2 := by
      intro i hi
      obtain ⟨cs', h1, h2⟩ := hx i hi
      rw [hc] at h1
      obtain ⟨_, hlen, hcell⟩ := World.cells?_some h1
      obtain ⟨a, y, rfl, hr⟩ := hE _ _ _ h2
      exact ⟨(a, y), hcell, hr⟩
    obtain ⟨p, hp⟩ := Go.Deep.choose_lt each
    have hspot : m = 0 ∨ ∃ b o, (some ad : Option Addr) = some ⟨b, o, none⟩ := by
      rcases Nat.eq_zero_or_pos m with h0 | h0
      · exact .inl h0
      · right
        have h1 := (hp 0 h0).1 0 hs0
        have e0 : (ad.add (0 * s)).add 0 = ad := by simp [Addr.add]
        rw [e0, List.getElem?_eq_getElem (by rw [hs]; exact hs0)] at h1
        obtain ⟨b, o, sp⟩ := ad
        cases sp with
        | none => exact ⟨b, o, rfl⟩
        | some sp =>
          unfold World.cell? at h1
          split at h1 <;> simp at h1
    refine ⟨_, (List.range ln).map fun i => (p i).2, hcs, ⟨by simpa using ⟨some ad, m, rfl, hl, hmax, hspot⟩, (List.range ln).map fun i => (p i).1, ⟨by simp, ?_⟩, ?_⟩⟩
    · intro i y r hy hr
      simp only [List.getElem?_map, Option.map_eq_some_iff] at hy hr
      obtain ⟨j, hj, rfl⟩ := hy
      obtain ⟨j', hj', rfl⟩ := hr
      rw [hj] at hj'
      cases hj'
      have : j < ln := by
        have := List.mem_of_getElem? hj
        simpa using this
      exact (hp j (by omega)).2
    · rcases hspot with h0 | ⟨b, o, e⟩
      · have : ln = 0 := by omega
        subst this
        exact Cels.nil _ _ _
      · simp only [Option.some.injEq] at e
        subst e
        intro j hj
        rw [rws_length hs, List.length_map, List.length_range] at hj
        have hlt : j / s < ln := Nat.div_lt_of_lt_mul (by rw [Nat.mul_comm]; exact hj)
        have hmod : j % s < s := Nat.mod_lt _ hs0
        have hdm : j / s * s + j % s = j := by rw [Nat.mul_comm]; exact Nat.div_add_mod j s
        have hq : ((List.range ln).map fun i => (p i).1)[j / s]? = some (p (j / s)).1 := by
          rw [List.getElem?_map, List.getElem?_range hlt]
          rfl
        have g := rws_get hs hq (j % s) hmod
        rw [hdm] at g
        have h1 := (hp (j / s) (by omega)).1 (j % s) hmod
        rw [addr_add, addr_add, cell_heap, Nat.add_assoc, hdm, ← g] at h1
        rw [← List.getElem?_eq_getElem]
        exact h1

theorem open_bytes {t e : TypeId} {fuel : Nat} {cs : List Value} {x : DataW Hh × List MemPlace} (ht : P.underlying t = some (.slice e)) (he : P.underlying e = some (.int .u8)) (hc : P.cellsOf e = 1)
    (h : DataW.trod enc P w base (fun _ => true) held fuel t cs = some x) : ∃ v l, cs = [v] ∧ Bs w.heap v l := by
  rcases DataW.trod_slice ht h with ⟨e1, _⟩ | ⟨a, l, c, _, _, _, _, e1, _⟩
  · exact ⟨_, [], e1, Bs.nil _⟩
  · subst e1
    obtain ⟨zs, hzl, hzs, hzc, hzw⟩ := open_row ht he hc h
    obtain ⟨b, hb, _⟩ := bs_of_row (by rw [hzl]; exact hzs) hzc hzw
    exact ⟨_, b, rfl, hb⟩
theorem open_ints {t e : TypeId} {k : IntKind} {fuel : Nat} {cs : List Value} {x : DataW Hh × List MemPlace} (ht : P.underlying t = some (.slice e)) (he : P.underlying e = some (.int k)) (hc : P.cellsOf e = 1)
    (h : DataW.trod enc P w base (fun _ => true) held fuel t cs = some x) : ∃ (v : Value) (zs : List Int), cs = [v] ∧ IsSl v zs.length ∧ Cels w.heap (sb v) (so v) (zs.map (Value.int k)) ∧ ∀ n ∈ zs, (Lit.int k n).wf = true := by
  rcases DataW.trod_slice ht h with ⟨e1, _⟩ | ⟨a, l, c, _, _, _, _, e1, _⟩
  · exact ⟨_, [], e1, isSl_nil, Cels.nil _ _ _, by simp⟩
  · subst e1
    obtain ⟨zs, hzl, hzs, hzc, hzw⟩ := open_row ht he hc h
    exact ⟨_, zs, rfl, by rw [hzl]; exact hzs, hzc, hzw⟩
/-- a struct whose fields are one cell each -/
theorem open_fields {t : TypeId} {fs : Array Field} {fuel : Nat} {cs : List Value} {x : DataW Hh × List MemPlace} (ht : P.underlying t = some (.struct fs)) (hc : P.cellsOf t = fs.size)
    (ho : (List.range fs.size).all (fun i => match fs[i]? with | some f => f.offset == i && P.cellsOf f.type == 1 | none => false) = true)
    (h : DataW.trod enc P w base (fun _ => true) held fuel t cs = some x) :
    ∃ n, cs.length = fs.size ∧ ∀ (i : Nat) (f : Field), fs[i]? = some f → ∃ v y, cs[i]? = some v ∧ DataW.trod enc P w base (fun _ => true) held n f.type [v] = some y := by
  obtain ⟨xs, n, _, _, hlen, hxl, hf⟩ := DataW.trod_struct ht h
  refine ⟨n, by rw [hlen, hc], fun i f hi => ?_⟩
  have hlt := (Array.getElem?_eq_some_iff.1 hi).1
  have h1 := List.all_eq_true.1 ho i (by simpa using hlt)
  rw [hi] at h1
  simp only [Bool.and_eq_true, beq_iff_eq] at h1
  have g := hf i f hi
  rw [h1.1, h1.2] at g
  have hi2 : i < cs.length := by rw [hlen, hc]; exact hlt
  have e1 : (cs.drop i).take 1 = [cs[i]] := by
    rw [List.drop_eq_getElem_cons hi2]
    rfl
  rw [e1] at g
  refine ⟨cs[i], xs[i]'(by omega), List.getElem?_eq_getElem hi2, ?_⟩
  rw [g, List.getElem?_eq_getElem]
end
end Go.Proofs.YtbcflfkajkmkdaaDoor.X
namespace Go.Proofs.YtbcflfkajkmkdaaDoor.X
open Go
set_option linter.unusedVariables false
set_option linter.unusedSimpArgs false

/-! ### rows: copy, clear, append of zeros, capacities -/
theorem run_firstCells' {P : Program} {w : World} {u : Value} {n k s : Nat} {cx : List Value} (hU : IsSl u n) (hk : k ≤ n) (hl : cx.length = k * s) (hc : Cels w.heap (sb u) (so u) cx) :
    (Builtin.firstCells s k u).run P w = .ok cx.toArray w := by
  obtain ⟨a, c, rfl, h1, h2, rfl | ⟨b, o, rfl⟩⟩ := hU
  · have : k = 0 := by omega
    subst this
    have : cx = [] := by simpa using hl
    subst this
    cases a with
    | none => rfl
    | some a => simp [Builtin.firstCells, loadCells, loadCellsFrom]
  · have := run_loadCells (P := P) hc
    rw [hl] at this
    exact this

/-- cells that are laid over a row's -/
structure Over (H H' : Heap) (b o : Nat) (cx : List Value) : Prop where
  keep : Keep (fun x => x = b ∧ cx ≠ []) H H'
  size : H'.size = H.size
  blk : ∀ l, Blk H b l → o + cx.length ≤ l.length → Blk H' b (putL l o cx)
theorem Over.refl (H : Heap) (b o : Nat) : Over H H b o [] := ⟨Keep.refl _ _, rfl, fun l h _ => by rw [putL_nil]; exact h⟩

theorem run_over {P : Program} {w0 w : World} {H : Heap} (hw : Wd w0 H w) {u : Value} {m : Nat} {cx : List Value} {base : Option Addr} {c : Nat} (he : u = .slice base m c) (hu : IsSl u m) (hO : ∀ v ∈ cx, oneC v = true) (hn : cx ≠ [] → 0 < sc u)
    (hB : cx ≠ [] → ∃ l, Blk H (sb u) l ∧ so u + cx.length ≤ l.length) :
    ∃ w', (match base with | some a => storeCells a cx | none => pure ()).run P w = .ok () w' ∧ Wd w0 w'.heap w' ∧ Over H w'.heap (sb u) (so u) cx := by
  by_cases h0 : cx = []
  · subst h0
    refine ⟨w, ?_, ⟨rfl, hw.os, hw.tape, hw.output⟩, by rw [hw.heap]; exact Over.refl _ _ _⟩
    cases base with
    | none => rfl
    | some a => simp [storeCells]
  · obtain ⟨l, hb, hle⟩ := hB h0
    have hf := hu.form (hn h0)
    rw [he] at hf
    have hbase : base = some ⟨sb u, so u, none⟩ := by
      rw [he]
      injection hf with h1
    have hb' : Blk w.heap (sb u) l := by rw [hw.heap]; exact hb
    obtain ⟨w', hr, hwd⟩ := run_storeCells (P := P) (w0 := w0) cx w (sb u) (so u) 0 l ⟨rfl, hw.os, hw.tape, hw.output⟩ hb' (by omega) hO
    rw [Nat.add_zero, hw.heap] at hwd
    refine ⟨w', by rw [hbase]; exact hr, ⟨rfl, hwd.os, hwd.tape, hwd.output⟩, ?_⟩
    rw [hwd.heap]
    refine ⟨(setB_keep H _ _).mono (fun x _ e => ⟨e, h0⟩), setB_size _ _ _, fun l' hl' hle' => ?_⟩
    have := hl'.uniq hb
    subst this
    exact setB_blk hb (putL_length hle')

theorem zeroCells_size (z : Array Value) (n : Nat) : (Builtin.zeroCells z n).toList.length = n * z.size := by simp [Builtin.zeroCells]
theorem zeroCells_oneC {z : Array Value} (hz : ∀ v ∈ z.toList, oneC v = true) (n : Nat) : ∀ v ∈ (Builtin.zeroCells z n).toList, oneC v = true := by
  intro v hv
  simp only [Builtin.zeroCells, Array.toList_map, List.mem_map] at hv
  obtain ⟨i, hi, rfl⟩ := hv
  have hi' : i < n * z.size := by simpa using hi
  have hs : 0 < z.size := by
    rcases Nat.eq_zero_or_pos z.size with h | h
    · rw [h] at hi'; omega
    · exact h
  have hm : i % z.size < z.size := Nat.mod_lt _ hs
  rw [getElem!_pos z _ hm]
  exact hz _ (by simp)

/-- a function number that is the library's own look for shared memory -/
class IsOv (P : Program) (f : Nat) (t e : outParam Nat) : Prop where
  ov : ∃ fn r, P.funcs[f]? = some fn ∧ (fn.name == "runtime.NumGoroutine") = false ∧ fn.body.isNone = true ∧ Extern.findNext fn = none ∧ Extern.find fn = some (Extern.SlicesOverlaps.overlaps #[t, t] #[r])

section ops
variable {P : Program} {n : Nat} {B : Exit → Act → World → Prop} {w0 : World} {md : Md} {ops : List Oper} {rest : OT} {k : K} {σ : Sl} {H : Heap} {i : Nat}
variable {d : Nat} {ty : TypeId} {pos : String} {after : Array Edge} {g : Option (Nat × Bool)}

theorem x_cap {t e m : Nat} {x : Operand} {v : Value} [hT : Ty P t (.slice e)] (hg : gd ops σ g = some true) (hx : evo σ x = some v) (hS : IsSl v m) (hd : Nat.blt d n = true) (hk : okq ops md i ⟨some d, .call ⟨.builtin .cap, #[x], #[t]⟩, ty, pos, after, g⟩ H)
    (h : XW P n B w0 md ops rest k ((d, .int .i64 (sc v : Nat)) :: σ) H) : XW P n B w0 md ops (.op i ⟨some d, .call ⟨.builtin .cap, #[x], #[t]⟩, ty, pos, after, g⟩ rest) k σ H :=
  x_pure hk hg rfl hd (fun a w hM ha => by
    obtain ⟨ad, c, rfl, _⟩ := hS
    simp [execOp, resolve, invoke, builtin, Builtin.cap_, ha.evo hx, run_und hT, goInt, sc]) h

/-- x[l:h:m], where what comes of it is not used -/
theorem x_slice3 {t e m s bb : Nat} {z : Value} {x lo hi mx : Operand} {v : Value} {kl kh km : IntKind} {l h q : Int} [hT : Ty P t (.slice e)] [hI : Inf P e s bb z] (hg : gd ops σ g = some true) (hx : evo σ x = some v) (hlo : evo σ lo = some (.int kl l)) (hhi : evo σ hi = some (.int kh h)) (hmx : evo σ mx = some (.int km q)) (hS : IsSl v m)
    (h0 : 0 ≤ l) (h1 : l ≤ h) (h2 : h ≤ q) (h3 : q ≤ sc v) (hd : Nat.blt d n = true) (hk : okq ops md i ⟨some d, .slice t x (some lo) (some hi) (some mx), ty, pos, after, g⟩ H)
    (hh : ∀ u, XW P n B w0 md ops rest k ((d, u) :: σ) H) : XW P n B w0 md ops (.op i ⟨some d, .slice t x (some lo) (some hi) (some mx), ty, pos, after, g⟩ rest) k σ H := by
  obtain ⟨a, c, rfl, h4, h5, _⟩ := hS
  have h3 : q ≤ c := h3
  obtain ⟨l, rfl⟩ := Int.eq_ofNat_of_zero_le h0
  obtain ⟨h, rfl⟩ := Int.eq_ofNat_of_zero_le (Int.le_trans h0 h1)
  obtain ⟨q, rfl⟩ := Int.eq_ofNat_of_zero_le (Int.le_trans (Int.le_trans h0 h1) h2)
  have e1 : l ≤ h := by omega
  have e2 : h ≤ q := by omega
  have e3 : q ≤ c := by omega
  refine x_pure hk hg rfl hd (fun A w hM ha => ?_) (hh (.slice (if q = l then a else a.map (·.add (l * s))) (h - l) (q - l)))
  simp [execOp, Instr.sliceAt, Instr.slice, run_und hT, ha.evo hx, ha.evo hlo, ha.evo hhi, ha.evo hmx, Instr.sliceBounds, Instr.sliceBound, asIntOf, e1, e2, e3, run_size hI]

/-- copy -/
theorem x_copy {dst : Option Nat} {t t2 e s bb m q : Nat} {z : Value} {x y : Operand} {u v : Value} {cx : List Value} [hT : Ty P t (.slice e)] [hI : Inf P e s bb z] (hg : gd ops σ g = some true) (hx : evo σ x = some u) (hy : evo σ y = some v) (hu : IsSl u m) (hv : IsSl v q)
    (hl : cx.length = min q m * s) (hc : Cels H (sb v) (so v) cx) (hO : ∀ w ∈ cx, oneC w = true) (hB : cx ≠ [] → ∃ l, Blk H (sb u) l ∧ so u + cx.length ≤ l.length) (hd : dstOk dst n = true) (he : okE ops md i ⟨dst, .call ⟨.builtin .copy, #[x, y], #[t, t2]⟩, ty, pos, after, g⟩)
    (h : ∀ H', Over H H' (sb u) (so u) cx → okm ops md i H H' ∧ XW P n B w0 md ops rest k (putS dst (.int .i64 (min q m : Nat)) σ) H') : XW P n B w0 md ops (.op i ⟨dst, .call ⟨.builtin .copy, #[x, y], #[t, t2]⟩, ty, pos, after, g⟩ rest) k σ H := by
  refine x_eff (E := fun r H' => r = .int .i64 (min q m : Nat) ∧ Over H H' (sb u) (so u) cx) he hg hd (fun a w ha hw N Q hN => ?_) (fun r H' ⟨e, h'⟩ => by subst e; exact h H' h')
  obtain ⟨base, c, rfl, h1, h2, h3⟩ := id hu
  have hpos : cx ≠ [] → 0 < sc (.slice base m c) := fun hne => by
    have h4 := List.length_pos_iff.2 hne
    have h5 := hu.cap.1
    rcases Nat.eq_zero_or_pos m with h6 | h6
    · subst h6
      rw [Nat.min_zero, Nat.zero_mul] at hl
      omega
    · omega
  obtain ⟨w', hr, hwd, ho⟩ := run_over (P := P) hw rfl hu hO hpos hB
  have hfc : (Builtin.firstCells s (min q m) v).run P w = .ok cx.toArray w := run_firstCells' hv (Nat.min_le_left _ _) hl (by rw [hw.heap]; exact hc)
  have hlen : (Builtin.lenOf v).run P w = .ok q w := by
    obtain ⟨a', c', rfl, _⟩ := hv
    rfl
  have e1 : (execOp a.eval ⟨dst, .call ⟨.builtin .copy, #[x, y], #[t, t2]⟩, ty, pos, after, g⟩).run P w = .ok (.value (.int .i64 (min q m : Nat))) w' := by
    have hmin : Nat.min q m = min q m := rfl
    cases base with
    | none =>
      obtain rfl : w = w' := by simpa using hr
      simp [execOp, resolve, invoke, builtin, Builtin.copy_, ha.evo hx, ha.evo hy, run_und hT, run_size hI, hlen, hmin, hfc, goInt, hr]
    | some b =>
      simp at hr
      simp [execOp, resolve, invoke, builtin, Builtin.copy_, ha.evo hx, ha.evo hy, run_und hT, run_size hI, hlen, hmin, hfc, goInt, hr]
  rw [e1, Oper.upon_value]
  exact hN _ w' hwd ⟨rfl, ho⟩

/-- clear of a row -/
theorem x_clear {dst : Option Nat} {t e s bb m : Nat} {z : Value} {x : Operand} {u : Value} [hT : Ty P t (.slice e)] [hI : Inf P e s bb z] (hz : z.cells.size = s) (hzo : ∀ v ∈ z.cells.toList, oneC v = true) (hg : gd ops σ g = some true) (hx : evo σ x = some u) (hu : IsSl u m)
    (hB : 0 < m → ∃ l, Blk H (sb u) l ∧ so u + m * s ≤ l.length) (hd : dstOk dst n = true) (he : okE ops md i ⟨dst, .call ⟨.builtin .clear, #[x], #[t]⟩, ty, pos, after, g⟩)
    (h : ∀ H', Over H H' (sb u) (so u) (Builtin.zeroCells z.cells m).toList → okm ops md i H H' ∧ XW P n B w0 md ops rest k (putS dst (.tuple #[]) σ) H') : XW P n B w0 md ops (.op i ⟨dst, .call ⟨.builtin .clear, #[x], #[t]⟩, ty, pos, after, g⟩ rest) k σ H := by
  refine x_eff (E := fun r H' => r = .tuple #[] ∧ Over H H' (sb u) (so u) (Builtin.zeroCells z.cells m).toList) he hg hd (fun a w ha hw N Q hN => ?_) (fun r H' ⟨e, h'⟩ => by subst e; exact h H' h')
  obtain ⟨base, c, rfl, h1, h2, h3⟩ := id hu
  have hzl := zeroCells_size z.cells m
  rw [hz] at hzl
  have hm : (Builtin.zeroCells z.cells m).toList ≠ [] → 0 < m := fun hne => by
    have h4 := List.length_pos_iff.2 hne
    rcases Nat.eq_zero_or_pos m with h6 | h6
    · subst h6
      rw [Nat.zero_mul] at hzl
      omega
    · exact h6
  obtain ⟨w', hr, hwd, ho⟩ := run_over (P := P) hw rfl hu (zeroCells_oneC hzo m) (fun hne => by have := hm hne; have := hu.cap.1; omega) (fun hne => by rw [hzl]; exact hB (hm hne))
  have e1 : (execOp a.eval ⟨dst, .call ⟨.builtin .clear, #[x], #[t]⟩, ty, pos, after, g⟩).run P w = .ok (.value (.tuple #[])) w' := by
    cases base with
    | none =>
      simp at hr
      simp [execOp, resolve, invoke, builtin, Builtin.clear_, ha.evo hx, run_und hT, hr]
    | some b =>
      simp at hr
      cases m with
      | zero =>
        have e0 : (Builtin.zeroCells z.cells 0).toList = [] := by simp [Builtin.zeroCells]
        rw [e0] at hr
        simp [storeCells] at hr
        simp [execOp, resolve, invoke, builtin, Builtin.clear_, ha.evo hx, run_und hT, hr]
      | succ m => simp [execOp, resolve, invoke, builtin, Builtin.clear_, ha.evo hx, run_und hT, run_zero hI, hr]
  rw [e1, Oper.upon_value]
  exact hN _ w' hwd ⟨rfl, ho⟩

/-- 'append(v, make([]E, m)...)', where it grows -/
theorem x_appendz {dst : Option Nat} {t t2 e s bb c m : Nat} {kd : IntKind} {z : Value} {x y : Operand} {v : Value} {cs : List Value} [hT : Ty P t (.slice e)] [hT2 : Ty P t2 (.int kd)] [hI : Inf P e s bb z] (hz : z.cells.size = s) (hs : 0 < s) (hbb : 0 < bb)
    (hg : gd ops σ g = some true) (hx : evo σ x = some v) (hy : evo σ y = some (.int .i64 (m : Nat))) (hv : Own s H v c cs) (hm : 0 < m) (hgr : sc v < c + m) (hsz : (c + m) * bb ≤ 140737488355328)
    (hd : dstOk dst n = true) (he : okE ops md i ⟨dst, .call ⟨.builtin .append, #[x, y], #[t, t2]⟩, ty, pos, after, g⟩)
    (h : ∀ v' H', App s H H' v v' c cs (Builtin.zeroCells z.cells m).toList m → okm ops md i H H' ∧ XW P n B w0 md ops rest k (putS dst v' σ) H') : XW P n B w0 md ops (.op i ⟨dst, .call ⟨.builtin .append, #[x, y], #[t, t2]⟩, ty, pos, after, g⟩ rest) k σ H := by
  refine x_eff (E := fun v' H' => App s H H' v v' c cs (Builtin.zeroCells z.cells m).toList m) he hg hd (fun a w ha hw N Q hN => ?_) h
  have hsl := hv.sl
  have hlen := hv.len
  obtain ⟨base, cap, hbv, h1, h2, h3⟩ := id hv.sl
  have hsc : sc v = cap := by rw [hbv]; rfl
  have hnm : c + m ≤ 140737488355328 := Nat.le_trans (Nat.le_mul_of_pos_right _ hbb) hsz
  obtain ⟨inf, hi1, hi2, hi3, hi4⟩ := hI.get
  have hwr : IntKind.i64.wrap (m : Int) = m := wrap_i64 (by omega) (by omega)
  have hml : m * bb ≤ 140737488355328 := Nat.le_trans (Nat.mul_le_mul_right bb (by omega)) hsz
  have hms : ¬ (m * s = 0) := by
    have := Nat.mul_pos hm hs
    omega
  have hfit : ¬ (c + m ≤ cap) := by omega
  have hnc : ¬ (Builtin.nextslicecap (c + m) cap * bb > 2 ^ 48) := by
    have h1 := nextcap_le (need := c + m) (cap := cap) (by omega)
    have h2 : Builtin.nextslicecap (c + m) cap * bb ≤ 2 * (c + m) * bb := Nat.mul_le_mul_right bb h1
    have h3 : 2 * (c + m) * bb = 2 * ((c + m) * bb) := by rw [Nat.mul_assoc]
    omega
  let nc := (Question.appendCap (c + m) cap e).cut (w.tape w.drawn (.appendCap (c + m) cap e))
  have hncge : c + m ≤ nc := Nat.le_add_right _ _
  have hnclt : nc ≤ 9223372036854775807 := by
    have : w.tape w.drawn (.appendCap (c + m) cap e) % (2 ^ 63 - (c + m)) < 2 ^ 63 - (c + m) := Nat.mod_lt _ (by omega)
    show c + m + w.tape w.drawn (.appendCap (c + m) cap e) % (2 ^ 63 - (c + m)) ≤ _
    omega
  have hzc : (Builtin.zeroCells z.cells (nc - (c + m))).size = (nc - (c + m)) * s := by simp [Builtin.zeroCells, hz]
  have hzm : (Builtin.zeroCells z.cells m).size = m * s := by simp [Builtin.zeroCells, hz]
  generalize hrest : Builtin.zeroCells z.cells (nc - (c + m)) = rst at hzc
  generalize hnew' : Builtin.zeroCells z.cells m = zm at hzm hN
  have hwd1 : Wd w0 H { w with drawn := w.drawn + 1 } := hw.drew
  obtain ⟨w', hr, hwd, hnew⟩ := run_newRow (P := P) hwd1 e (cs ++ zm.toList ++ rst.toList)
  have hmul : (c + m) * s + (nc - (c + m)) * s = nc * s := by rw [← Nat.add_mul]; congr 1; omega
  have hold' : ∀ x : World, x.heap = w.heap → (Builtin.firstCells s c v).run P x = .ok cs.toArray x := fun x hx => run_firstCells hsl hlen (by rw [hx, hw.heap]; exact hv.cels)
  have e3 : (cs.toArray ++ zm ++ rst) = (cs ++ zm.toList ++ rst.toList).toArray := by simp
  have hnot : ¬ ((c + m : Nat) : Int) > IntKind.i64.max := by
    have : IntKind.i64.max = 9223372036854775807 := rfl
    rw [this]; omega
  have hge0 : ¬ ((m : Int) < 0) := by omega
  have hge1 : ¬ ((m : Int) * ((bb : Nat) : Int) > 2 ^ 48) := by
    have e : (m : Int) * (bb : Int) = ((m * bb : Nat) : Int) := by simp
    rw [e]; omega
  have e1 : (execOp a.eval ⟨dst, .call ⟨.builtin .append, #[x, y], #[t, t2]⟩, ty, pos, after, g⟩).run P w = .ok (.value (.slice (some ⟨H.size, 0, none⟩) (c + m) nc)) w' := by
    rw [hbv] at hold'
    simp only [execOp, resolve, invoke, builtin, ha.evo hx, ha.evo hy, List.map_toArray, List.map_cons, List.map_nil, hbv]
    simp only [Builtin.append_, Sem.run_bind, Sem.run_map, List.getElem?_toArray, List.getElem?_cons_zero, List.getElem?_cons_succ, run_und hT, run_und hT2, run_size hI, Result.andThen_ok, Sem.run_pure, Sem.run_ite, if_true, asInt, asIntOf, hwr]
    rw [if_neg hge0]
    simp only [run_typeInfo_some hi1, Result.andThen_ok, Sem.run_pure]
    rw [hi3, if_neg hge1]
    have htn : ((m : Nat) : Int).toNat = m := rfl
    simp only [htn]
    rw [if_neg hfit]
    rw [if_neg (fun h => hnot h.1)]
    rw [if_neg hnc]
    simp only [run_choose, Question.forced, Bool.false_eq_true, if_false, Result.andThen_ok, run_typeInfo_some hi1, run_askRoom, hold' { w with drawn := w.drawn + 1 } rfl, run_zero hI, Bool.not_true, if_true, if_neg hms, Sem.run_bind, Sem.run_pure]
    rw [hnew']
    show (((newRow e (cs.toArray ++ zm ++ Builtin.zeroCells z.cells (nc - (c + m)))).run P { w with drawn := w.drawn + 1 }).andThen _).andThen _ = _
    rw [hrest, e3, hr]
    rfl
  rw [e1, Oper.upon_value]
  refine hN _ w' hwd ⟨⟨isSl_some hncge hnclt, by simp [hlen, hzm, Nat.add_mul], fun _ => ⟨_, hnew.blk, ?_, ?_⟩⟩, hnew.keep.mono (fun _ _ h => h.elim), .inr ⟨rfl, rfl, by omega, hncge, hnew.size⟩⟩
  · show 0 + nc * s ≤ (cs ++ zm.toList ++ rst.toList).length
    simp [hlen, hzm, hzc]
    rw [← hmul, Nat.add_mul]
    omega
  · show ((cs ++ zm.toList ++ rst.toList).drop 0).take (cs ++ zm.toList).length = cs ++ zm.toList
    rw [List.drop_zero, List.take_left]

/-- a row just made shares no memory with another -/
theorem x_overlaps {f t e s bb : Nat} {z : Value} {x y : Operand} {ts : Array TypeId} {a la lb m : Nat} {v : Value} {cs : List Value} [hF : IsOv P f t e] [hT : Ty P t (.slice e)] [hI : Inf P e s bb z] (hg : gd ops σ g = some true) (hx : evo σ x = some (.slice (some ⟨a, 0, none⟩) la lb)) (hy : evo σ y = some v)
    (hv : IsSl v m) (hA : ∀ H', hpm md i H H' → ∃ T, H'[a]? = some (.cells cs.toArray T (0, 0))) (hB : ∀ H', hpm md i H H' → ∃ l, Blk H' (sb v) l ∧ l ≠ []) (hm : 0 < m) (hne : a ≠ sb v) (hd : Nat.blt d n = true) (hk : okq ops md i ⟨some d, .call ⟨.value (.func f), #[x, y], ts⟩, ty, pos, after, g⟩ H)
    (h : XW P n B w0 md ops rest k ((d, .bool false) :: σ) H) : XW P n B w0 md ops (.op i ⟨some d, .call ⟨.value (.func f), #[x, y], ts⟩, ty, pos, after, g⟩ rest) k σ H :=
  x_pure hk hg rfl hd (fun A w hM hA' => by
    obtain ⟨fn, r, h1, h2, h3, h4, h5⟩ := hF.ov
    have hrun : (Extern.SlicesOverlaps.overlaps #[t, t] #[r] #[.slice (some ⟨a, 0, none⟩) la lb, v]).run P w = .ok (.bool false) w := by
      obtain ⟨base, c, rfl, g1, g2, g3⟩ := hv
      cases base with
      | none => rcases g3 with g3 | ⟨_, _, g3⟩
                · omega
                · cases g3
      | some b =>
        obtain ⟨T, hh⟩ := hA _ hM
        obtain ⟨l, ⟨T', fz, hb, hf⟩, hl⟩ := hB _ hM
        have hsb : sb (.slice (some b) m c) = b.block := rfl
        rw [hsb] at hb
        have hz : ∀ w, (sizeOf e).run P w = .ok s w := fun w => run_size hI
        exact Lib.run_overlaps_apart (P := P) w t r e hT.und s hz ⟨a, 0, none⟩ b la lb m c hne T T' cs.length l.length (by unfold World.shape?; rw [hh]; simp) (by unfold World.shape?; rw [hb]; simp) (by intro e; exact hl (List.length_eq_zero_iff.1 e)) (by rw [frozen_heap]; unfold frz; rw [hh]; simp) (by rw [frozen_heap]; unfold frz; rw [hh]; simp)
    have := run_callFunc_extern h1 h2 h3 h4 h5 #[.slice (some ⟨a, 0, none⟩) la lb, v] w
    rw [hrun] at this
    simp only [Result.andThen] at this
    have e0 : A.eval (.func f) = .func (.func f) #[] #[] := rfl
    simp [execOp, resolve, Deferred.ofValue, e0, invoke, hA'.evo hx, hA'.evo hy, this]) h
end ops
end Go.Proofs.YtbcflfkajkmkdaaDoor.X
namespace Go.Proofs.YtbcflfkajkmkdaaDoor.X
open Go
set_option linter.unusedVariables false
set_option linter.unusedSimpArgs false

/-! ### a row of one's own: laid over, cut, made longer -/
section own
variable {s : Nat} {H H' : Heap} {v u : Value} {n m o i : Nat} {cs cx : List Value}
theorem putL_one_end {l : List Value} {o : Nat} {cx : List Value} (h : o + cx.length ≤ l.length) : (putL l o cx).length = l.length := putL_length h
theorem Own.over (h : Own s H v n cs) (ho : Over H H' (sb v) (so v + o) cx) (hle : o + cx.length ≤ cs.length) : Own s H' v n (putL cs o cx) := by
  have hlen := h.len
  refine ⟨h.sl, by rw [putL_length hle]; exact hlen, fun hc => ?_⟩
  obtain ⟨l, h1, h2, h3⟩ := h.row hc
  have hns : n * s ≤ sc v * s := Nat.mul_le_mul_right s h.sl.cap.1
  refine ⟨_, ho.blk l h1 (by omega), by rw [putL_length (by omega)]; exact h2, ?_⟩
  apply List.ext_getElem?
  intro i
  rw [putL_length hle, List.getElem?_take, List.getElem?_drop, putL_get (by omega), putL_get hle]
  have h3' : i < cs.length → l[so v + i]? = cs[i]? := by
    intro hi
    have := congrArg (fun z => z[i]?) h3
    simp only [List.getElem?_take, if_pos hi, List.getElem?_drop] at this
    exact this
  by_cases hi : i < cs.length
  · rw [if_pos hi]
    by_cases h4 : i < o
    · rw [if_pos (by omega), if_pos h4]
      exact h3' hi
    · rw [if_neg (by omega), if_neg h4]
      by_cases h5 : i < o + cx.length
      · rw [if_pos (by omega), if_pos h5]
        congr 1
        omega
      · rw [if_neg (by omega), if_neg h5]
        exact h3' hi
  · rw [if_neg hi, if_neg (by omega), if_neg (by omega), List.getElem?_eq_none (by omega)]
theorem Own.beyond (h : Own s H v n cs) (ho : Over H H' (sb v) (so v + o) cx) (hge : cs.length ≤ o) (hle : o + cx.length ≤ sc v * s) : Own s H' v n cs := by
  refine ⟨h.sl, h.len, fun hc => ?_⟩
  obtain ⟨l, h1, h2, h3⟩ := h.row hc
  refine ⟨_, ho.blk l h1 (by omega), by rw [putL_length (by omega)]; exact h2, ?_⟩
  apply List.ext_getElem?
  intro i
  rw [List.getElem?_take, List.getElem?_drop, putL_get (by omega)]
  have h3' := congrArg (fun z => z[i]?) h3
  simp only [List.getElem?_take, List.getElem?_drop] at h3'
  by_cases hi : i < cs.length
  · rw [if_pos hi] at h3' ⊢
    rw [if_pos (by omega)]
    exact h3'
  · rw [if_neg hi] at h3' ⊢
    exact h3'
theorem Own.grow (h : Own s H v n cs) (hu : IsSl u m) (hc : CutOf u v 0 s) (hnm : n ≤ m) (hm : m ≤ sc v) : ∃ ds, ds.length = m * s - n * s ∧ Own s H u m (cs ++ ds) := by
  have hlen := h.len
  have hcap : sc u = sc v := by have := hc.cap; omega
  rcases Nat.eq_zero_or_pos (sc v) with h0 | h0
  · have hm0 : m = 0 := by omega
    have hn0 : n = 0 := by omega
    subst hm0 hn0
    have : cs = [] := by simpa using hlen
    subst this
    exact ⟨[], by simp, hu, by simp, fun e => by omega⟩
  · obtain ⟨l, h1, h2, h3⟩ := h.row h0
    obtain ⟨e1, e2⟩ := hc.at_ h0
    rw [Nat.zero_mul, Nat.add_zero] at e2
    have hms : m * s ≤ sc v * s := Nat.mul_le_mul_right s hm
    have hns : n * s ≤ m * s := Nat.mul_le_mul_right s hnm
    refine ⟨(l.drop (so v + cs.length)).take (m * s - n * s), by simp; omega, hu, by simp; omega, fun _ => ⟨l, by rw [e1]; exact h1, by rw [e2, hcap]; exact h2, ?_⟩⟩
    rw [e2]
    have e3 : (cs ++ (l.drop (so v + cs.length)).take (m * s - n * s)).length = m * s := by simp; omega
    rw [e3]
    have e4 : m * s = cs.length + (m * s - n * s) := by omega
    rw [e4, List.take_add, h3, List.drop_drop]
    congr 1
    congr 1
    omega
theorem Own.shrink (h : Own s H v n cs) (hu : IsSl u i) (hc : CutOf u v 0 s) (hi : i ≤ n) : Own s H u i (cs.take (i * s)) := by
  have hlen := h.len
  have hcap : sc u = sc v := by have := hc.cap; omega
  have his : i * s ≤ n * s := Nat.mul_le_mul_right s hi
  refine ⟨hu, by simp; omega, fun h0 => ?_⟩
  have h0' : 0 < sc v := by omega
  obtain ⟨e1, e2⟩ := hc.at_ h0'
  obtain ⟨l, h1, h2, h3⟩ := h.row h0'
  rw [Nat.zero_mul, Nat.add_zero] at e2
  refine ⟨l, by rw [e1]; exact h1, by rw [e2, hcap]; exact h2, ?_⟩
  have e3 : cs.take (i * s) = (l.drop (so v)).take (min (i * s) cs.length) := by
    conv => lhs; rw [← h3]
    rw [List.take_take]
  rw [e2, List.length_take, ← e3]
/-- where a tail stands -/
theorem Cels.tail {c j : Nat} (h : Cels H (sb v) (so v) cs) (hu : CutOf u v j s) (hj : j < sc v) : Cels H (sb u) (so u) (cs.drop (j * s)) := by
  obtain ⟨e1, e2⟩ := hu.at_ hj
  rw [e1, e2]
  exact h.drop _
end own
theorem pcs_nil : pcs [] = [] := rfl
theorem pcs_two (a : Value) (x : Int) : pcs [(a, x)] = [a, .int .u64 x] := rfl
section own2
variable {s : Nat} {H H' : Heap} {v u : Value} {n m o i : Nat} {cs cx : List Value}
/-- where a copy into a tail goes -/
theorem Own.dst (h : Own s H v n cs) (hc : CutOf u v i s) (hi : i < sc v) {c : Nat} (hle : i * s + c ≤ sc v * s) : ∃ l, Blk H (sb u) l ∧ so u + c ≤ l.length := by
  obtain ⟨l, h1, h2, _⟩ := h.row (by omega)
  obtain ⟨e1, e2⟩ := hc.at_ hi
  exact ⟨l, by rw [e1]; exact h1, by rw [e2]; omega⟩
theorem Over.at_ (h : Over H H' (sb u) (so u) cx) (hc : CutOf u v i s) (hi : i < sc v) : Over H H' (sb v) (so v + i * s) cx := by
  obtain ⟨e1, e2⟩ := hc.at_ hi
  rw [e1, e2] at h
  exact h
end own2
theorem putL_at (a b c d : List Value) (h : c.length = b.length) : putL (a ++ b ++ d) a.length c = a ++ c ++ d := by
  unfold putL
  rw [h, ← List.drop_drop, List.append_assoc a b d, List.take_left, List.drop_left, List.drop_left, List.append_assoc]
theorem pcs_set1 {q : List (Value × Int)} {j : Nat} {y : Value × Int} (h : q[j]? = some y) (x : Int) : (pcs q).set (j * 2 + 1) (.int .u64 x) = pcs (q.set j (y.1, x)) := by
  induction q generalizing j with
  | nil => simp at h
  | cons z q ih =>
    cases j with
    | zero =>
      simp at h
      subst h
      rfl
    | succ j =>
      simp at h
      have e : (j + 1) * 2 + 1 = (j * 2 + 1) + 1 + 1 := by omega
      rw [pcs_cons, e, List.set_cons_succ, List.set_cons_succ, ih h]
      rfl
theorem Pk.set {K : Value → List UInt8 → Prop} {q : List (Value × Int)} {l : List Pr} (h : Pk K q l) {j : Nat} {y : Value × Int} {p : Pr} (hy : K y.1 p.1) (e : y.2 = p.2) : Pk K (q.set j y) (l.set j p) :=
  ⟨by simp [h.len], fun i x r hx hr => by
    have hi := (List.getElem?_eq_some_iff.1 hx).1
    have hi' := (List.getElem?_eq_some_iff.1 hr).1
    simp at hi hi'
    by_cases hj : j = i
    · subst hj
      rw [List.getElem?_set_self (by omega)] at hx hr
      cases hx
      cases hr
      exact ⟨e, hy⟩
    · rw [List.getElem?_set_ne hj] at hx hr
      exact h.at_ i x r hx hr⟩
theorem Pk.get {K : Value → List UInt8 → Prop} {q : List (Value × Int)} {l : List Pr} (h : Pk K q l) {i : Nat} {p : Pr} (hp : l[i]? = some p) : ∃ x, q[i]? = some (x, p.2) ∧ K x p.1 := by
  have hi := (List.getElem?_eq_some_iff.1 hp).1
  have hlen := h.len
  obtain ⟨y, hy⟩ : ∃ y, q[i]? = some y := ⟨_, List.getElem?_eq_getElem (by omega)⟩
  obtain ⟨e, hk⟩ := h.at_ i y p hy hp
  exact ⟨y.1, by rw [hy, ← e], hk⟩
theorem cel_pcs {H : Heap} {b o i : Nat} {q : List (Value × Int)} {x : Value × Int} (hc : Cels H b o (pcs q)) (h : q[i]? = some x) : cel H b (o + i * 2) = some x.1 ∧ cel H b (o + i * 2 + 1) = some (.int .u64 x.2) := by
  have hi := (List.getElem?_eq_some_iff.1 h).1
  obtain ⟨g1, g2⟩ := pcs_get q i x h
  constructor
  · rw [hc (i * 2) (by rw [pcs_length]; omega), ← g1, List.getElem?_eq_getElem]
  · have := hc (i * 2 + 1) (by rw [pcs_length]; omega)
    rw [← Nat.add_assoc] at this
    rw [this, ← g2, List.getElem?_eq_getElem]
theorem cels_two {H : Heap} {b o : Nat} {a c : Value} (h0 : cel H b o = some a) (h1 : cel H b (o + 1) = some c) : Cels H b o [a, c] := by
  intro j hj
  simp at hj
  rcases j with _ | _ | j
  · exact h0
  · exact h1
  · omega
end Go.Proofs.YtbcflfkajkmkdaaDoor.X
namespace Go.Proofs.YtbcflfkajkmkdaaDoor.X
open Go
set_option linter.unusedVariables false

/-! ### the rules of a walk, in short: what is always paid alike stands behind the goal, as auto-params -/
section short
variable {P : Program} {n : Nat} {B : Exit → Act → World → Prop} {w0 : World} {md : Md} {ops : List Oper} {rest : OT} {k : K} {σ : Sl} {H : Heap} {i : Nat}
variable {d : Nat} {ty : TypeId} {pos : String} {after : Array Edge} {g : Option (Nat × Bool)}
theorem za {x : Operand} {v : Value} (h : XW P n B w0 md ops rest k ((d, v) :: σ) H) (hg : gd ops σ g = some true := by exact rfl) (hv : evo σ x = some v := by exact rfl) (hd : Nat.blt d n = true := by exact rfl) (hk : okq ops md i ⟨some d, .move x, ty, pos, after, g⟩ H := by first | exact True.intro | exact okq_reg rfl rfl) : XW P n B w0 md ops (.op i ⟨some d, .move x, ty, pos, after, g⟩ rest) k σ H := x_move hg hv hd hk h
theorem zb {x : Operand} {v : Value} (h : XW P n B w0 md ops rest k ((d, v) :: σ) H) (hg : gd ops σ g = some true := by exact rfl) (hv : evo σ x = some v := by exact rfl) (hd : Nat.blt d n = true := by exact rfl) (hk : okq ops md i ⟨some d, .assign x, ty, pos, after, g⟩ H := by first | exact True.intro | exact okq_reg rfl rfl) : XW P n B w0 md ops (.op i ⟨some d, .assign x, ty, pos, after, g⟩ rest) k σ H := x_assign hg hv hd hk h
theorem zc {t t' : Nat} {x y : Operand} {kd : IntKind} {a b : Int} (h : XW P n B w0 md ops rest k ((d, .int kd (a + b)) :: σ) H) (hg : gd ops σ g = some true := by exact rfl) (hx : evo σ x = some (.int kd a) := by exact rfl) (hy : evo σ y = some (.int kd b) := by exact rfl) (hw : kd.wrap (a + b) = a + b := by exact (wrap_i64 (by omega) (by omega))) (hd : Nat.blt d n = true := by exact rfl) (hk : okq ops md i ⟨some d, .binOp .add t x y t', ty, pos, after, g⟩ H := by first | exact True.intro | exact okq_reg rfl rfl) : XW P n B w0 md ops (.op i ⟨some d, .binOp .add t x y t', ty, pos, after, g⟩ rest) k σ H := x_add hg hx hy hw hd hk h
theorem zd {t t' : Nat} {x y : Operand} {kd : IntKind} {a b : Int} (h : XW P n B w0 md ops rest k ((d, .int kd (a - b)) :: σ) H) (hg : gd ops σ g = some true := by exact rfl) (hx : evo σ x = some (.int kd a) := by exact rfl) (hy : evo σ y = some (.int kd b) := by exact rfl) (hw : kd.wrap (a - b) = a - b := by exact (wrap_i64 (by omega) (by omega))) (hd : Nat.blt d n = true := by exact rfl) (hk : okq ops md i ⟨some d, .binOp .sub t x y t', ty, pos, after, g⟩ H := by first | exact True.intro | exact okq_reg rfl rfl) : XW P n B w0 md ops (.op i ⟨some d, .binOp .sub t x y t', ty, pos, after, g⟩ rest) k σ H := x_sub_ hg hx hy hw hd hk h
theorem ze {t t' : Nat} {x y : Operand} {kd : IntKind} {a b : Int} (h : XW P n B w0 md ops rest k ((d, .int kd (a - b)) :: σ) H) (hg : gd ops σ g = some true := by exact rfl) (hx : evo σ x = some (.int kd a) := by exact rfl) (hy : evo σ y = some (.int kd b) := by exact rfl) (hw : kd.wrap (a - b) = a - b := by exact (wrap_u32 (by omega) (by omega))) (hd : Nat.blt d n = true := by exact rfl) (hk : okq ops md i ⟨some d, .binOp .sub t x y t', ty, pos, after, g⟩ H := by first | exact True.intro | exact okq_reg rfl rfl) : XW P n B w0 md ops (.op i ⟨some d, .binOp .sub t x y t', ty, pos, after, g⟩ rest) k σ H := x_sub_ hg hx hy hw hd hk h
theorem zf {t t' : Nat} {x y : Operand} {kd : IntKind} {a b : Int} (h : XW P n B w0 md ops rest k ((d, .int kd (a + b)) :: σ) H) (hg : gd ops σ g = some true := by exact rfl) (hx : evo σ x = some (.int kd a) := by exact rfl) (hy : evo σ y = some (.int kd b) := by exact rfl) (hw : kd.wrap (a + b) = a + b := by exact (wrap_u32 (by omega) (by omega))) (hd : Nat.blt d n = true := by exact rfl) (hk : okq ops md i ⟨some d, .binOp .add t x y t', ty, pos, after, g⟩ H := by first | exact True.intro | exact okq_reg rfl rfl) : XW P n B w0 md ops (.op i ⟨some d, .binOp .add t x y t', ty, pos, after, g⟩ rest) k σ H := x_add hg hx hy hw hd hk h
theorem zg {t t' e : Nat} {x y : Operand} {a : Option Addr} [hT : Ty P t (.pointer e)] (h : XW P n B w0 md ops rest k ((d, .bool a.isNone) :: σ) H) (hg : gd ops σ g = some true := by exact rfl) (hx : evo σ x = some (.pointer a) := by exact rfl) (hy : evo σ y = some (.pointer none) := by exact rfl) (hd : Nat.blt d n = true := by exact rfl) (hk : okq ops md i ⟨some d, .binOp .eql t x y t', ty, pos, after, g⟩ H := by first | exact True.intro | exact okq_reg rfl rfl) : XW P n B w0 md ops (.op i ⟨some d, .binOp .eql t x y t', ty, pos, after, g⟩ rest) k σ H := x_peqn hg hx hy hd hk h
theorem zh {t t' e : Nat} {x y : Operand} {a : Option Addr} [hT : Ty P t (.pointer e)] (h : XW P n B w0 md ops rest k ((d, .bool (!a.isNone)) :: σ) H) (hg : gd ops σ g = some true := by exact rfl) (hx : evo σ x = some (.pointer a) := by exact rfl) (hy : evo σ y = some (.pointer none) := by exact rfl) (hd : Nat.blt d n = true := by exact rfl) (hk : okq ops md i ⟨some d, .binOp .neq t x y t', ty, pos, after, g⟩ H := by first | exact True.intro | exact okq_reg rfl rfl) : XW P n B w0 md ops (.op i ⟨some d, .binOp .neq t x y t', ty, pos, after, g⟩ rest) k σ H := x_pnen hg hx hy hd hk h
theorem zi {t t' : Nat} {x y : Operand} {kd : IntKind} {a b : Int} (h : XW P n B w0 md ops rest k ((d, .int kd (a * b)) :: σ) H) (hg : gd ops σ g = some true := by exact rfl) (hx : evo σ x = some (.int kd a) := by exact rfl) (hy : evo σ y = some (.int kd b) := by exact rfl) (hw : kd.wrap (a * b) = a * b := by exact (wrap_i64 (by omega) (by omega))) (hd : Nat.blt d n = true := by exact rfl) (hk : okq ops md i ⟨some d, .binOp .mul t x y t', ty, pos, after, g⟩ H := by first | exact True.intro | exact okq_reg rfl rfl) : XW P n B w0 md ops (.op i ⟨some d, .binOp .mul t x y t', ty, pos, after, g⟩ rest) k σ H := x_mul hg hx hy hw hd hk h
theorem zj {op : BinOp} {t t' : Nat} {x y : Operand} {kd : IntKind} {a b : Int} {v : Value} (h : XW P n B w0 md ops rest k ((d, v) :: σ) H) (hg : gd ops σ g = some true := by exact rfl) (hx : evo σ x = some (.int kd a) := by exact rfl) (hy : evo σ y = some (.int kd b) := by exact rfl) (hv : ibin op kd a b = some v := by exact rfl) (hd : Nat.blt d n = true := by exact rfl) (hk : okq ops md i ⟨some d, .binOp op t x y t', ty, pos, after, g⟩ H := by first | exact True.intro | exact okq_reg rfl rfl) : XW P n B w0 md ops (.op i ⟨some d, .binOp op t x y t', ty, pos, after, g⟩ rest) k σ H := x_ibin hg hx hy hv hd hk h
theorem zk {t : Nat} {x : Operand} {kd : IntKind} {a : Int} (h : XW P n B w0 md ops rest k ((d, .int kd (-a)) :: σ) H) (hg : gd ops σ g = some true := by exact rfl) (hx : evo σ x = some (.int kd a) := by exact rfl) (hw : kd.wrap (-a) = -a := by exact (wrap_i64 (by omega) (by omega))) (hd : Nat.blt d n = true := by exact rfl) (hk : okq ops md i ⟨some d, .unOp .neg t x, ty, pos, after, g⟩ H := by first | exact True.intro | exact okq_reg rfl rfl) : XW P n B w0 md ops (.op i ⟨some d, .unOp .neg t x, ty, pos, after, g⟩ rest) k σ H := x_neg_ hg hx hw hd hk h
theorem zl {t e m : Nat} {x : Operand} {v : Value} [hT : Ty P t (.slice e)] (h : XW P n B w0 md ops rest k ((d, .int .i64 m) :: σ) H) (hg : gd ops σ g = some true := by exact rfl) (hx : evo σ x = some v := by exact rfl) (hS : IsSl v m := by exact (by assumption)) (hd : Nat.blt d n = true := by exact rfl) (hk : okq ops md i ⟨some d, .call ⟨.builtin .len, #[x], #[t]⟩, ty, pos, after, g⟩ H := by first | exact True.intro | exact okq_reg rfl rfl) : XW P n B w0 md ops (.op i ⟨some d, .call ⟨.builtin .len, #[x], #[t]⟩, ty, pos, after, g⟩ rest) k σ H := x_len hg hx hS hd hk h
theorem zm {c x y : Operand} {v : Value} (h : XW P n B w0 md ops rest k ((d, v) :: σ) H) (hg : gd ops σ g = some true := by exact rfl) (hc : evo σ c = some (.bool true) := by exact rfl) (hv : evo σ x = some v := by exact rfl) (hd : Nat.blt d n = true := by exact rfl) (hk : okq ops md i ⟨some d, .pick c x y, ty, pos, after, g⟩ H := by first | exact True.intro | exact okq_reg rfl rfl) : XW P n B w0 md ops (.op i ⟨some d, .pick c x y, ty, pos, after, g⟩ rest) k σ H := x_pick_t hg hc hv hd hk h
theorem zn {c x y : Operand} {v : Value} (h : XW P n B w0 md ops rest k ((d, v) :: σ) H) (hg : gd ops σ g = some true := by exact rfl) (hc : evo σ c = some (.bool false) := by exact rfl) (hv : evo σ y = some v := by exact rfl) (hd : Nat.blt d n = true := by exact rfl) (hk : okq ops md i ⟨some d, .pick c x y, ty, pos, after, g⟩ H := by first | exact True.intro | exact okq_reg rfl rfl) : XW P n B w0 md ops (.op i ⟨some d, .pick c x y, ty, pos, after, g⟩ rest) k σ H := x_pick_f hg hc hv hd hk h
theorem zo {t : Nat} {x : Operand} {b : Bool} (h : XW P n B w0 md ops rest k ((d, .bool (!b)) :: σ) H) (hg : gd ops σ g = some true := by exact rfl) (hx : evo σ x = some (.bool b) := by exact rfl) (hd : Nat.blt d n = true := by exact rfl) (hk : okq ops md i ⟨some d, .unOp .not t x, ty, pos, after, g⟩ H := by first | exact True.intro | exact okq_reg rfl rfl) : XW P n B w0 md ops (.op i ⟨some d, .unOp .not t x, ty, pos, after, g⟩ rest) k σ H := x_not hg hx hd hk h
theorem zp {t t' : Nat} {x y : Operand} {a b : Bool} [hT : Ty P t .bool] (h : XW P n B w0 md ops rest k ((d, .bool (a == b)) :: σ) H) (hg : gd ops σ g = some true := by exact rfl) (hx : evo σ x = some (.bool a) := by exact rfl) (hy : evo σ y = some (.bool b) := by exact rfl) (hd : Nat.blt d n = true := by exact rfl) (hk : okq ops md i ⟨some d, .binOp .eql t x y t', ty, pos, after, g⟩ H := by first | exact True.intro | exact okq_reg rfl rfl) : XW P n B w0 md ops (.op i ⟨some d, .binOp .eql t x y t', ty, pos, after, g⟩ rest) k σ H := x_beq hg hx hy hd hk h
theorem zq {t t' : Nat} {x y : Operand} {a b : Bool} [hT : Ty P t .bool] (h : XW P n B w0 md ops rest k ((d, .bool (!(a == b))) :: σ) H) (hg : gd ops σ g = some true := by exact rfl) (hx : evo σ x = some (.bool a) := by exact rfl) (hy : evo σ y = some (.bool b) := by exact rfl) (hd : Nat.blt d n = true := by exact rfl) (hk : okq ops md i ⟨some d, .binOp .neq t x y t', ty, pos, after, g⟩ H := by first | exact True.intro | exact okq_reg rfl rfl) : XW P n B w0 md ops (.op i ⟨some d, .binOp .neq t x y t', ty, pos, after, g⟩ rest) k σ H := x_bne hg hx hy hd hk h
theorem zr {x : Operand} {ix : Nat} {vs : Array Value} {v : Value} (h : XW P n B w0 md ops rest k ((d, v) :: σ) H) (hg : gd ops σ g = some true := by exact rfl) (hx : evo σ x = some (.tuple vs) := by exact rfl) (hv : vs[ix]? = some v := by exact rfl) (hd : Nat.blt d n = true := by exact rfl) (hk : okq ops md i ⟨some d, .extract x ix, ty, pos, after, g⟩ H := by first | exact True.intro | exact okq_reg rfl rfl) : XW P n B w0 md ops (.op i ⟨some d, .extract x ix, ty, pos, after, g⟩ rest) k σ H := x_extract hg hx hv hd hk h
theorem zs {x : Operand} {a : Addr} (h : XW P n B w0 md ops rest k ((d, .pointer (some a)) :: σ) H) (hg : gd ops σ g = some true := by exact rfl) (hx : evo σ x = some (.pointer (some a)) := by exact rfl) (hd : Nat.blt d n = true := by exact rfl) (hk : okq ops md i ⟨some d, .nilCheck x, ty, pos, after, g⟩ H := by first | exact True.intro | exact okq_reg rfl rfl) : XW P n B w0 md ops (.op i ⟨some d, .nilCheck x, ty, pos, after, g⟩ rest) k σ H := x_nilCheck hg hx hd hk h
theorem zt {t f b o : Nat} {x : Operand} {fs : List (Nat × Nat × Nat)} {ft off sz : Nat} [hT : Stt P t fs] (h : XW P n B w0 md ops rest k ((d, ptr b (o + off)) :: σ) H) (hg : gd ops σ g = some true := by exact rfl) (hx : evo σ x = some (ptr b o) := by exact rfl) (hf : fs[f]? = some (ft, off, sz + 1) := by exact rfl) (hd : Nat.blt d n = true := by exact rfl) (hk : okq ops md i ⟨some d, .fieldAddr t x f, ty, pos, after, g⟩ H := by first | exact True.intro | exact okq_reg rfl rfl) : XW P n B w0 md ops (.op i ⟨some d, .fieldAddr t x f, ty, pos, after, g⟩ rest) k σ H := x_fieldAddr hg hx hf hd hk h
theorem zu {o : Oper} {d : Nat} (h : XW P n B w0 md ops rest k ((d, undef) :: σ) H) (hk : okq ops md i o H := by first | exact True.intro | exact okq_reg rfl rfl) (hg : gd ops σ o.guard = some false := by exact rfl) (ho : o.dst = some d := by exact rfl) (hd : Nat.blt d n = true := by exact rfl) : XW P n B w0 md ops (.op i o rest) k σ H := x_skip hk hg ho hd h
theorem zv {t e m b : Nat} {z : Value} {x y : Operand} {v : Value} {ki : IntKind} {j : Int} [hT : Ty P t (.slice e)] [hI : Inf P e 1 b z] (h : XW P n B w0 md ops rest k ((d, ptr (sb v) (so v + j.toNat)) :: σ) H) (hg : gd ops σ g = some true := by exact rfl) (hx : evo σ x = some v := by exact rfl) (hy : evo σ y = some (.int ki j) := by exact rfl) (hS : IsSl v m := by exact (by assumption)) (h0 : 0 ≤ j := by exact (by omega)) (h1 : j < m := by exact (by omega)) (hd : Nat.blt d n = true := by exact rfl) (hk : okq ops md i ⟨some d, .indexAddr t x y, ty, pos, after, g⟩ H := by first | exact True.intro | exact okq_reg rfl rfl) : XW P n B w0 md ops (.op i ⟨some d, .indexAddr t x y, ty, pos, after, g⟩ rest) k σ H := x_indexAddr1 hg hx hy hS h0 h1 hd hk h
theorem zw {t e m s b : Nat} {z : Value} {x y : Operand} {v : Value} {ki : IntKind} {j : Int} [hT : Ty P t (.slice e)] [hI : Inf P e s b z] (h : XW P n B w0 md ops rest k ((d, ptr (sb v) (so v + j.toNat * s)) :: σ) H) (hg : gd ops σ g = some true := by exact rfl) (hx : evo σ x = some v := by exact rfl) (hy : evo σ y = some (.int ki j) := by exact rfl) (hS : IsSl v m := by exact (by assumption)) (h0 : 0 ≤ j := by exact (by omega)) (h1 : j < m := by exact (by omega)) (hd : Nat.blt d n = true := by exact rfl) (hk : okq ops md i ⟨some d, .indexAddr t x y, ty, pos, after, g⟩ H := by first | exact True.intro | exact okq_reg rfl rfl) : XW P n B w0 md ops (.op i ⟨some d, .indexAddr t x y, ty, pos, after, g⟩ rest) k σ H := x_indexAddr hg hx hy hS h0 h1 hd hk h
theorem zx  (h : NW P n B w0 k σ H)  : XW P n B w0 md ops .nil k σ H := x_nil h
theorem zy {x y : Code} (h : CW P n B w0 x (.seq y k) σ H)  : CW P n B w0 (.seq x y) k σ H := cw_seq h
theorem zz {y : Code} (h : CW P n B w0 y k σ H)  : NW P n B w0 (.seq y k) σ H := nw_seq h
theorem zza {id : Nat} (h : NW P n B w0 k σ H)  : NW P n B w0 (.block id k) σ H := nw_block h
theorem zzb {id : Nat} {c : Code} (h : CW P n B w0 c (.block id k) σ H)  : CW P n B w0 (.block id c) k σ H := cw_block h
theorem zzc  (h : NW P n B w0 k σ H)  : CW P n B w0 .skip k σ H := cw_skip h
theorem zzd {id : Nat} {l : List Oper} (h : XW P n B w0 .text l (OT.ofList l) k σ H)  : CW P n B w0 (.region id l.toArray false) k σ H := cw_region h
theorem zze {id : Nat} {k' : K} (h : NW P n B w0 k' σ H) (hu : k.unwind id = some k' := by exact rfl) : CW P n B w0 (.exit id) k σ H := cw_exit hu h
theorem zzf {c : Operand} {x y : Code} (ht : CW P n B w0 x k σ H) (hc : evo σ c = some (.bool true) := by exact rfl) : CW P n B w0 (.cond c x y) k σ H := cw_true hc ht
theorem zzg {c : Operand} {x y : Code} (hf : CW P n B w0 y k σ H) (hc : evo σ c = some (.bool false) := by exact rfl) : CW P n B w0 (.cond c x y) k σ H := cw_false hc hf
end short
end Go.Proofs.YtbcflfkajkmkdaaDoor.X
namespace Go.Proofs.YtbcflfkajkmkdaaDoor.X
open Go
set_option linter.unusedVariables false

/-! ### many steps at once: the list of rules stands in an auto-param -/
structure Box (A : Prop) : Prop where
  out : A
theorem zrun (A : Prop) {B : Prop} (a : A) (f : Box A → B := by (intro h; (repeat (first | refine za ?_ | refine zt ?_ | refine zb ?_ | refine zx ?_ | refine zy ?_ | refine zz ?_ | refine zzd ?_ | refine zl ?_ | refine zr ?_ | refine zc ?_ | refine zd ?_ | refine ze ?_ | refine zf ?_ | refine zg ?_ | refine zh ?_ | refine zi ?_ | refine zj ?_ | refine zp ?_ | refine zq ?_ | refine zm ?_ | refine zn ?_ | refine zo ?_ | refine zzf ?_ | refine zzg ?_ | refine zza ?_ | refine zzb ?_ | refine zzc ?_ | refine zze ?_ | refine zu ?_ | refine zv ?_ | refine zw ?_ | refine zk ?_ | refine zs ?_)); exact h.out)) : B := f ⟨a⟩
theorem zhrun (A : Prop) {B : Prop} (a : A) (f : Box A → B := by (intro h; (repeat (first | refine za ?_ | refine zt ?_ | refine zb ?_ | refine zx ?_ | refine zy ?_ | refine zz ?_ | refine zzd ?_ | refine zl ?_ | refine zr ?_ | refine zc ?_ | refine zd ?_ | refine ze ?_ | refine zi ?_ | refine zj ?_ | refine zm ?_ | refine zn ?_ | refine zo ?_ | refine zzf ?_ | refine zzg ?_ | refine zza ?_ | refine zzb ?_ | refine zzc ?_ | refine zze ?_ | refine zu ?_ | refine zv ?_ | refine zw ?_ | refine zs ?_)); exact h.out)) : B := f ⟨a⟩
theorem zrunc (A : Prop) {B : Prop} (a : A) (f : Box A → B := by (intro h; (repeat (first | refine za ?_ | refine zt ?_ | refine zb ?_ | refine zx ?_ | refine zy ?_ | refine zz ?_ | refine zl ?_ | refine zr ?_ | refine zc ?_ | refine zd ?_ | refine zi ?_ | refine zj ?_ | refine zp ?_ | refine zq ?_ | refine zm ?_ | refine zn ?_ | refine zo ?_ | refine zzf ?_ | refine zzg ?_ | refine zza ?_ | refine zzb ?_ | refine zzc ?_ | refine zze ?_ | refine zu ?_ | refine zv ?_ | refine zw ?_ | refine zk ?_ | refine zs ?_)); exact h.out)) : B := f ⟨a⟩
theorem zhfall (A : Prop) {B : Prop} (a : A) (f : Box A → B := by (intro h; (repeat (first | refine za ?_ | refine zt ?_ | refine zb ?_ | refine zx ?_ | refine zy ?_ | refine zz ?_ | refine zzd ?_ | refine zl ?_ | refine zr ?_ | refine zc ?_ | refine zd ?_ | refine ze ?_ | refine zi ?_ | refine zj ?_ | refine zm ?_ | refine zn ?_ | refine zo ?_ | refine zzf ?_ | refine zzg ?_ | refine zza ?_ | refine zzb ?_ | refine zzc ?_ | refine zze ?_ | refine zu ?_ | refine zv ?_ | refine zw ?_ | refine zs ?_ | refine x_skip (okq_load rfl rfl (by assumption)) rfl rfl rfl ?_ | refine x_skipE ⟨rfl, rfl⟩ rfl rfl ?_)); exact h.out)) : B := f ⟨a⟩
end Go.Proofs.YtbcflfkajkmkdaaDoor.X
attribute [irreducible] Go.Proofs.YtbcflfkajkmkdaaDoor.X.XW Go.Proofs.YtbcflfkajkmkdaaDoor.X.CW Go.Proofs.YtbcflfkajkmkdaaDoor.X.NW Go.Proofs.YtbcflfkajkmkdaaDoor.X.Ret
