/- A range over a function: rounds, yields, and a function that holds such a loop. -/
import Derived.Test.YtaloblomncjgkaaXlib
import Derived.RangeFuncLeaves
import Derived.RangeFuncRecord
namespace Go.Proofs.Ytaloblomncjgkaa.X
open Go
set_option linter.unusedVariables false
set_option linter.unusedSimpArgs false

section ops
variable {P : Program} {n : Nat} {B : Exit → Act → World → Prop} {w0 : World} {md : Md} {ops : List Oper} {rest : OT} {k : K} {σ : Sl} {H : Heap} {i : Nat}
variable {d : Nat} {ty : TypeId} {pos : String} {after : Array Edge} {g : Option (Nat × Bool)}
/-- what a call of a loop's yield makes -/
def Yld (P : Program) (l : Nat) (vs : List Value) (H : Heap) (Φ : Value → Heap → Prop) : Prop :=
  ∀ w, w.heap = H → ∃ f tmps assign body, (Instr.yield l vs.toArray).run P w = .ok (.round l f tmps assign body) w ∧ RoundIn (fenR none) 0 P l f tmps assign body w (RetB w Φ)
theorem x_yield {dst : Option Nat} {l : Nat} {y : Operand} {xs : List Operand} {ts : Array TypeId} {vs : List Value} {Φ : Value → Heap → Prop} (hg : gd ops σ g = some true) (hy : evo σ y = some (.func (.yield l) #[] #[])) (hx : evs σ xs = some vs) (hd : dstOk dst n = true)
    (hC : Yld P l vs H Φ) (h : ∀ v H', Φ v H' → XW P n B w0 (.fen none) ops rest k (putS dst v σ) H') : XW P n B w0 (.fen none) ops (.op i ⟨dst, .call ⟨.value y, xs.toArray, ts⟩, ty, pos, after, g⟩ rest) k σ H := by
  unfold XW
  intro a w ha hw
  show wpListIn _ _ _ _ _ (⟨dst, .call ⟨.value y, xs.toArray, ts⟩, ty, pos, after, g⟩ :: rest.toList) a w
  unfold wpListIn
  rw [if_pos (gd_wanted ha hg)]
  refine ⟨fun _ _ => trivial, ?_⟩
  obtain ⟨f, tmps, as, bd, hr, hR⟩ := hC w hw.heap
  have e1 := ha.evs _ _ hx
  have e2 : (execOp a.eval ⟨dst, .call ⟨.value y, xs.toArray, ts⟩, ty, pos, after, g⟩).run P w = .ok (.round l f tmps as bd) w := by
    simp [execOp, resolve, Deferred.ofValue, ha.evo hy, invoke, e1, hr]
  rw [Oper.semAt_none, e2, Oper.uponIn_round]
  refine ⟨(fun h => by cases h), hR.mono fun e w' ⟨v, he, hw', hp⟩ => ?_⟩
  subst he
  have h1 := h v _ hp
  unfold XW at h1
  exact h1 _ w' (ha.putS hd v) ⟨rfl, hw'.os.trans hw.os, hw'.tape.trans hw.tape, hw'.output.trans hw.output⟩
theorem cw_region_fen {id : Nat} {l : List Oper} (h : XW P n B w0 (.fen none) l (OT.ofList l) k σ H) : CW P n B w0 (.region id l.toArray false) k σ H :=
  by
    unfold XW at h
    unfold CW
    exact fun a w ha hw => (wpIn_wide (n := 0)).1 (wpIn_region_lit (by have := h a w ha hw; rwa [OT.toList_ofList] at this))
end ops

/-! ### code in a round -/
def RW (P : Program) (n : Nat) (r : Option Nat) (Q : Exit → Act → World → Prop) (w0 : World) (c : Code) (σ : Sl) (H : Heap) : Prop := ∀ a w, Sat n σ a → Wd w0 H w → c.wpIn (fenR r) 0 P Q a w
section rw
variable {P : Program} {n : Nat} {Q : Exit → Act → World → Prop} {w0 : World} {r : Option Nat} {σ : Sl} {H : Heap}
theorem rw_region {id : Nat} {l : List Oper} (h : XW P n Q w0 (.fen r) l (OT.ofList l) .done σ H) : RW P n r Q w0 (.region id l.toArray false) σ H := by
  unfold XW at h
  exact fun a w ha hw => wpIn_region_lit (by have := h a w ha hw; rwa [OT.toList_ofList] at this)
theorem rw_seq {x y : Code} (h : RW P n r (Exit.then (y.wpIn (fenR r) 0 P Q) Q) w0 x σ H) : RW P n r Q w0 (.seq x y) σ H := fun a w ha hw => wpIn_seq (h a w ha hw)
theorem rw_next {y : Code} (h : RW P n r Q w0 y σ H) : NW P n (Exit.then (y.wpIn (fenR r) 0 P Q) Q) w0 .done σ H := by
  unfold NW
  exact fun a w ha hw => h a w ha hw
theorem rw_block {id : Nat} {c : Code} (h : RW P n r (Exit.inBlock id Q) w0 c σ H) : RW P n r Q w0 (.block id c) σ H := fun a w ha hw => wpIn_block (h a w ha hw)
theorem rw_cond {c : Operand} {x y : Code} {b : Bool} (hc : evo σ c = some (.bool b)) (ht : b = true → RW P n r Q w0 x σ H) (hf : b = false → RW P n r Q w0 y σ H) : RW P n r Q w0 (.cond c x y) σ H := by
  intro a w ha hw
  refine wpIn_cond (ha.evo hc) ?_
  cases b with
  | true => exact ht rfl a w ha hw
  | false => exact hf rfl a w ha hw
theorem rw_skip (h : ∀ a w, Sat n σ a → Wd w0 H w → Q .normal a w) : RW P n r Q w0 .skip σ H := fun a w ha hw => wpIn_skip (h a w ha hw)
theorem rw_ret (h : ∀ a w, Sat n σ a → Wd w0 H w → Q .ret a w) : RW P n r Q w0 .ret σ H := fun a w ha hw => wpIn_ret (h a w ha hw)
end rw

/-! ### the loop's record -/
def lpObj (st : LoopState) (pend : Option Code) (fn : Nat) (tmps : Array Value) (ps : Array Tmp) (as bd : Code) (D : Nat) : Obj := .loop { state := st, pending := pend, fn, tmps, params := ps, assign := as, body := bd, defers := D }
theorem putObj_keep (w : World) (l : Nat) (o : Obj) : Keep (· = l) w.heap (w.putObj l o).heap := by
  show Keep (· = l) w.heap (w.heap.setIfInBounds l o)
  refine ⟨by simp, fun b hb hn => ?_⟩
  rw [Array.getElem?_setIfInBounds_ne (Ne.symm hn)]
theorem putObj_wd {w0 w : World} {H : Heap} (h : Wd w0 H w) (l : Nat) (o : Obj) : Wd w0 (w.putObj l o).heap (w.putObj l o) := ⟨rfl, h.os, h.tape, h.output⟩

/-- a round of a loop: what its body makes of memory in which the record is busy -/
theorem yld_of {P : Program} {n l fn D : Nat} {tmps : Array Value} {ps : Array Tmp} {as bd : Code} {vs : List Value} {H : Heap} {Φ : Value → Heap → Prop} {σ : Sl}
    (hl : H[l]? = some (lpObj .ready none fn tmps ps as bd D)) (hlen : vs.length = ps.size) (hs : Sat n σ ⟨(ps.zip vs.toArray).foldl (fun tmps (t, a) => tmps.setIfInBounds t a) tmps, []⟩)
    (h : ∀ w0, RW P n (some l) (Exit.then (fun a₁ w₁ => ∃ σ₁ H₁, Sat n σ₁ a₁ ∧ Wd w0 H₁ w₁ ∧ H₁[l]? = some (lpObj .ready none fn tmps ps as bd D) ∧
        ∀ H₂, H₂[l]? = some (lpObj .busy none fn tmps ps as bd D) → Keep (· = l) H₁ H₂ → H₂.size = H₁.size →
          RW P n (some l) (fun e a₂ w₂ => (w₂.heap[l]? = some (lpObj .busy none fn tmps ps as bd D) ∧ Wd w0 w₂.heap w₂) ∧
            ((e = .normal ∧ ∀ H₃, H₃[l]? = some (lpObj .ready none fn tmps ps as bd D) → Keep (· = l) w₂.heap H₃ → H₃.size = w₂.heap.size → Φ (.bool true) H₃) ∨
             (e = .ret ∧ ∀ H₃, H₃[l]? = some (lpObj .done (some .ret) fn tmps ps as bd D) → Keep (· = l) w₂.heap H₃ → H₃.size = w₂.heap.size → Φ (.bool false) H₃))) w0 bd σ₁ H₂) (fun _ _ _ => False)) w0 as σ H) :
    Yld P l vs H Φ := by
  intro w hw
  refine ⟨fn, (ps.zip vs.toArray).foldl (fun tmps (t, a) => tmps.setIfInBounds t a) tmps, as, bd, ?_, ?_⟩
  · exact run_yield (r := { state := .ready, pending := none, fn, tmps, params := ps, assign := as, body := bd, defers := D }) (by rw [hw]; exact hl) (by simpa using hlen)
  · refine roundIn_of_wpIn trivial ?_
    refine wpIn_mono (h w _ w hs ⟨hw, rfl, rfl, rfl⟩) (fun e a₁ w₁ hq => ?_)
    cases e with
    | normal =>
      obtain ⟨σ₁, H₁, g1, g2, g3, g4⟩ := hq
      have hr1 : w₁.heap[l]? = some (lpObj .ready none fn tmps ps as bd D) := by rw [g2.heap]; exact g3
      refine ⟨_, run_beginRound hr1 rfl, ?_⟩
      have hlt := lt_of_blk hr1
      have hk := putObj_keep w₁ l (lpObj .busy none fn tmps ps as bd D)
      rw [g2.heap] at hk
      refine wpIn_mono (g4 _ (World.putObj_heap_same hlt) hk (by rw [← g2.heap]; exact World.putObj_size) a₁ _ g1 (putObj_wd g2 l _)) (fun e a₂ w₂ hq2 => ?_)
      obtain ⟨⟨q1, q2⟩, q3⟩ := hq2
      have hlt2 := lt_of_blk q1
      rcases q3 with ⟨rfl, q3⟩ | ⟨rfl, q3⟩
      · refine ⟨_, _, run_endRound none q1, .bool true, rfl, putObj_wd q2 l _, ?_⟩
        exact q3 _ (World.putObj_heap_same hlt2) (putObj_keep w₂ l _) World.putObj_size
      · refine ⟨_, _, run_endRound (some .ret) q1, .bool false, rfl, putObj_wd q2 l _, ?_⟩
        exact q3 _ (World.putObj_heap_same hlt2) (putObj_keep w₂ l _) World.putObj_size
    | _ => exact hq

/-! ### a function that holds such a loop -/
section fn
variable {P : Program} {n : Nat} {B : Exit → Act → World → Prop} {w0 : World} {k : K} {σ : Sl} {H : Heap}
theorem ret_ofM {f : FuncId} {fn : Func} {c : Code} {args : List Value} {Φ : Value → Heap → Prop}
    (hf : P.funcs[f]? = some fn) (hb : fn.body = some c) (hn : fn.ntmps = n) (hle : Nat.ble args.length n = true) (hσ : num 0 args = σ)
    (h : ∀ w0, CW P n (bodyPostM (fenR none) 0 P fn (RetB w0 Φ)) w0 c .done σ H) : Ret P f args H Φ := by
  unfold Ret
  intro w hw
  refine (callsIn_wide (n := 0)).1 (callsIn_of_wp_marks hf hb trivial ?_)
  refine wpIn_wide.2 ?_
  have hle' : args.length ≤ n := Nat.le_of_ble_eq_true hle
  have h1 := h w
  unfold CW at h1
  refine h1 _ w ⟨?_, rfl, ?_⟩ ⟨hw, rfl, rfl, rfl⟩
  · simp [hn]; omega
  · intro i v hv
    rw [← hσ] at hv
    obtain ⟨_, h2⟩ := num_look args 0 i v hv
    simp only [Nat.sub_zero] at h2
    have : i < args.length := (List.getElem?_eq_some_iff.1 h2).1
    simp [Array.getElem?_append, this]
    exact (List.getElem?_eq_some_iff.1 h2).2
/-- the mark that such a loop leaves among the call's deferred ones -/
abbrev mark (D : Nat) : List Deferred := [{ target := .collected D, args := #[] }]
theorem cw_rangeFunc {g : Operand} {ps : Array Tmp} {as bd : Code} {gf : Nat} {lb : List Value} [hF : Fnc P gf] (hg : evo σ g = some (.func (.func gf) #[] lb.toArray))
    (h : ∀ fn tmps H₂, Sat n σ ⟨tmps, []⟩ → H₂[H.size]? = some (.deferred (some [])) → H₂[H.size + 1]? = some (lpObj .ready none fn tmps ps as bd H.size) → Keep Non H H₂ → H₂.size = H.size + 2 →
      Ret P gf (.func (.yield (H.size + 1)) #[] #[] :: lb) H₂ (fun _ H₃ => ∃ st pend, st ≠ .busy ∧ H₃[H.size + 1]? = some (lpObj st pend fn tmps ps as bd H.size) ∧
        ∀ H₄, Keep (· = H.size + 1) H₃ H₄ → H₄.size = H₃.size → ∀ a w, a.tmps = tmps → a.defers = mark H.size → Wd w0 H₄ w → (pend = none ∧ k.post P B .normal a w) ∨ (pend = some .ret ∧ B .ret a w))) :
    CW P n B w0 (.rangeFunc g ps as bd) k σ H := by
  unfold CW
  intro a w ha hw
  refine (wpIn_wide (n := 0)).1 (wpIn_rangeFunc fun fn _ => ?_)
  have hde := ha.defers
  have hlH : w.heap.size = H.size := by rw [hw.heap]
  let w1 := (w.alloc (.deferred (some []))).alloc (lpObj .ready none fn a.tmps ps as bd w.heap.size)
  have hw1 : w1.heap = (H.push (.deferred (some []))).push (lpObj .ready none fn a.tmps ps as bd H.size) := by
    show (w.heap.push _).push _ = _
    rw [hlH, hw.heap]
  have hsat : Sat n σ ⟨a.tmps, []⟩ := ⟨ha.size, rfl, ha.val⟩
  have hres : (resolve a.eval (rangeCall g (w.heap.size + 1)) 0).run P w1 = .ok { target := .fn (.func gf) lb.toArray, args := #[.func (.yield (w.heap.size + 1)) #[] #[]] } w1 := by
    show (Deferred.ofValue (a.eval g) _).run P w1 = _
    rw [ha.evo hg]
    simp [Deferred.ofValue, rangeCall, Act.eval]
  have hinv : (invoke (Target.fn (.func gf) lb.toArray) #[.func (.yield (w.heap.size + 1)) #[] #[]]).run P w1 = .ok (.enter gf (.func (.yield (w.heap.size + 1)) #[] #[] :: lb).toArray) w1 := by
    simp [invoke, run_callFunc hF]
  refine ⟨w.heap.size + 1, mark w.heap.size, w1, _, w1, gf, _, w1, run_enterLoop_outer fn a.tmps ps as bd, hres, fun _ _ => trivial, hinv, (fun h => by cases h), ?_⟩
  refine (callsIn_wide (n := 0)).2 ?_
  have hk2 : Keep Non H w1.heap := by rw [hw1]; exact (keep_push H _).non_trans (keep_push _ _)
  have hc := h fn a.tmps w1.heap hsat (by rw [hw1, Array.getElem?_push, if_neg (by simp), Array.getElem?_push, if_pos rfl]) (by rw [hw1, Array.getElem?_push, if_pos (by simp)]) hk2 (by rw [hw1]; simp)
  unfold Ret at hc
  have hc := hc w1 rfl
  rw [← hlH] at hc
  refine hc.mono fun e w3 ⟨v, he, hw3, st, pend, hst, hl3, hgo⟩ => ?_
  subst he
  have hlt3 := lt_of_blk hl3
  refine ⟨pend, _, run_endLoop hl3 hst, ?_⟩
  have hwd3 : Wd w0 w3.heap w3 := ⟨rfl, hw3.os.trans hw.os, hw3.tape.trans hw.tape, hw3.output.trans hw.output⟩
  have hfin := hgo _ (putObj_keep w3 _ (lpObj .exhausted pend fn a.tmps ps as bd w.heap.size)) World.putObj_size { a with defers := mark w.heap.size ++ a.defers } _ rfl (by simp [hde]) (putObj_wd hwd3 _ _)
  rcases hfin with ⟨rfl, hp⟩ | ⟨rfl, hp⟩
  · exact hp
  · exact wpIn_ret (ret_post hp)
end fn
end Go.Proofs.Ytaloblomncjgkaa.X
