/- Chapter 11's laid variables: what the cards' condition gives the walks. -/
import Derived.Test.YtkdmcbacofafpaaDoorRows
import Derived.Test.YtkdmcbacofafpaaDoorL11b
import Derived.ProofKit
import Derived.LaidMore
import Derived.OpenShut
import Derived.Stop.Joined
import Derived.LaidHandle
import Derived.LaidLaws
namespace Go.Proofs.YtkdmcbacofafpaaDoor
open Go Go.ChangeShapes Go.WideShapes Go.ChangeAt Go.RowKit YtkdmcbacofafpaaDoor.X
set_option linter.unusedVariables false

noncomputable def laidL : List (String × DataW Unit) := [("bramble/shape.fewest", Rows.laid_bramble_shape_fewest), ("bramble/shape.most", Rows.laid_bramble_shape_most)]
theorem knobOwn : ownKnob Tryd.prog.godebug = none := by kernel_rfl
theorem gFew : Tryd.prog.globalNamed "bramble/shape.fewest" = some 0 := by kernel_rfl
theorem gMost : Tryd.prog.globalNamed "bramble/shape.most" = some 1 := by kernel_rfl
theorem tFew : (Tryd.prog.globals[0]?).map (·.type) = some 93 := by kernel_rfl
theorem tMost : (Tryd.prog.globals[1]?).map (·.type) = some 93 := by kernel_rfl
/-- the door's own heap meets the condition -/
theorem door_met (os : Os) (args : Array Value) : laidMetH Tryd.prog laidL ((World.doorLaid Tryd.prog 400 os).forCall (fun _ _ => 0) ⟨#[], args, []⟩).memory :=
  laidMetH_of_parts3 (fuel := 8) (laidMet_of_run' 8 (by kernel_rfl) (by kernel_rfl)) (by kernel_rfl) (by kernel_rfl)
theorem row4 {W : World} {fuel : Nat} {cs : List Value} {a b c d : Int} {pl : List MemPlace} {held : Bool} {base : Nat} {sp : Nat → Bool} (h : DataW.trod (H := Unit) (fun _ => ()) Tryd.prog W base sp held fuel 93 cs = some (.agg [.lit (.int .i64 a), .lit (.int .i64 b), .lit (.int .i64 c), .lit (.int .i64 d)], pl)) :
    cs = [.int .i64 a, .int .i64 b, .int .i64 c, .int .i64 d] := by
  obtain ⟨xs, m, rfl, hx, hlen, hn, hel⟩ := DataW.trod_array Tryd.underlying93 h
  have c3 : Tryd.prog.cellsOf 3 = 1 := by kernel_rfl
  have c4 : Tryd.prog.cellsOf 93 = 4 := by kernel_rfl
  rw [c4] at hlen
  simp only [c3, Nat.mul_one] at hel
  have key : ∀ i, i < 4 → ∃ z : Int, cs[i]? = some (.int .i64 z) ∧ (xs.map (·.1))[i]? = some (.lit (.int .i64 z)) := fun i hi => by
    have h1 := hel i hi
    have hi2 : i < cs.length := by omega
    have e1 : (cs.drop i).take 1 = [cs[i]] := by
      rw [List.drop_eq_getElem_cons hi2]
      rfl
    rw [e1, List.getElem?_eq_getElem (by omega)] at h1
    obtain ⟨z, h2, h3, _⟩ := DataW.trod_int Tryd.underlying3 h1
    refine ⟨z, ?_, ?_⟩
    · rw [List.getElem?_eq_getElem hi2]
      simpa using h2
    · rw [List.getElem?_map, List.getElem?_eq_getElem (by omega), h3]
      rfl
  simp only [Prod.mk.injEq, DataW.agg.injEq] at hx
  rw [← hx.1] at key
  obtain ⟨z0, a0, b0⟩ := key 0 (by omega)
  obtain ⟨z1, a1, b1⟩ := key 1 (by omega)
  obtain ⟨z2, a2, b2⟩ := key 2 (by omega)
  obtain ⟨z3, a3, b3⟩ := key 3 (by omega)
  simp at b0 b1 b2 b3
  subst b0 b1 b2 b3
  match cs, hlen with
  | [x0, x1, x2, x3], _ =>
    simp at a0 a1 a2 a3
    subst a0 a1 a2 a3
    rfl
theorem of_laid {W : World} (h : laidMetH Tryd.prog laidL W) : Laid W.heap := by
  rw [MakeChecks.laidMetH_plain _ _ _ (by kernel_rfl)] at h
  obtain ⟨ps, ⟨g0, t0, cs0, f0, p0, q0, hg0, ht0, hv0, hd0, ⟨g1, t1, cs1, f1, p1, q1, hg1, ht1, hv1, hd1, _, _⟩, _⟩, _, _⟩ := h
  obtain rfl := Option.some.inj (gFew.symm.trans hg0)
  obtain rfl := Option.some.inj (gMost.symm.trans hg1)
  obtain rfl := Option.some.inj (tFew.symm.trans ht0)
  obtain rfl := Option.some.inj (tMost.symm.trans ht1)
  have e0 := row4 hd0
  have e1 := row4 hd1
  have put : ∀ {g : Nat} {n : String} {cs : Array Value} {l : List Value}, Tryd.prog.globalNamed n = some g → W.var? Tryd.prog n = some cs → cs.toList = l → Cels W.heap g 0 l := fun {g n cs l} hg hv e j hj => by
    have h1 := World.var?_cell hg hv (0 + j)
    rw [cell_heap] at h1
    rw [h1, Nat.zero_add, ← Array.getElem?_toList, e, List.getElem?_eq_getElem hj]
  exact ⟨put hg0 hv0 e0, put hg1 hv1 e1⟩
end Go.Proofs.YtkdmcbacofafpaaDoor
