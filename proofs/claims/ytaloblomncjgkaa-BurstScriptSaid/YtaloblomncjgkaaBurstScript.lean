/-
  For all numbers of cells, acts and keys: whatever is put and dropped, each call answers as a plain map does, or that there is no room, where it may; the tree is well built behind each, and has the same pairs. No condition.
-/
import Derived.Test.YtaloblomncjgkaaRows
import Derived.Test.YtaloblomncjgkaaLBur12
import Derived.ProofKit
import Derived.OpenShut
import Derived.ShutString
import Derived.ChangeOld
namespace Go.Proofs.Ytaloblomncjgkaa
open Go Go.ChangeShapes Go.WideShapes Go.ChangeAt Go.RowKit Ytaloblomncjgkaa.X
open Go.ChangeMaps (open_string shut_string)
set_option linter.unusedVariables false

theorem rBurstScript_own : ownKnob Try.prog.godebug = none := by kernel_rfl
theorem rBurstScript_laidOut : laidOutB Try.prog = true := by kernel_rfl
set_option maxRecDepth 100000 in
theorem rBurstScript_lifted (os : Os) (started : os.Started) (H : Type) (enc : TypeId × Value → H) :
    ReturnsInHanded {} Try.checked os 10 .any (Rows.burstScriptSpec.pre6 enc Try.prog Try.f10 Rows.burstScriptRow.domain false) (Rows.burstScriptSpec.post enc Try.prog Try.f10 false true false false) := by
  refine returnsInHanded_of_change (C := Try.checked) rBurstScript_own started (by kernel_rfl) Try.func10
    (ChangeSpec.witness6 (enc := enc) (C := Try.checked) false ⟨#[], #[.int .i64 0, .slice none 0 0, .slice none 0 0], []⟩ 8 (by kernel_rfl) (by kernel_rfl) (by kernel_rfl) (by kernel_rfl)) ?_
  intro W base args ds gs before hval0 hW hcnd _
  have hval : ∀ (j : Nat) t v, Try.f10.params[j]? = some t → args[j]? = some v → Value.okWide Try.prog W .any base t v := hval0
  have hW' := hW
  obtain ⟨p, q, hA0, hV, rfl, hfz, hnd⟩ := hW
  have hA : DataW.TrodAll enc Try.prog W 0 (fun _ => true) true Try.f10.params.toList args.toList ds p := hA0
  rw [Try.params10] at hA hval
  obtain ⟨v0, vs0, d0, ds0, p0, q0, hargs, rfl, rfl, h0, r0⟩ := trodAll_cons hA
  obtain ⟨v1, vs1, d1, ds1, p1, q1, rfl, rfl, rfl, h1, r1⟩ := trodAll_cons r0
  obtain ⟨v2, vs2, d2, ds2, p2, q2, rfl, rfl, rfl, h2, r2⟩ := trodAll_cons r1
  obtain ⟨rfl, rfl, rfl⟩ := trodAll_nil r2
  obtain rfl : args = #[v0, v1, v2] := by cases args; simp_all
  obtain ⟨rfl, rfl⟩ := trodVars_none hV
  obtain ⟨a0, rfl, rfl, rfl, w0⟩ := open_int Try.underlying3 (hval 0 3 v0 rfl rfl) h0
  have k1 := h1
  have lt1 : ∀ x ∈ p1, x.block < W.heap.size := by obtain ⟨m, hm⟩ := k1; exact DataW.trod_lt m _ _ _ hm
  obtain ⟨s1, len1, cap1, rfl⟩ := okWide_slice Try.underlying66 (hval 1 66 v1 rfl rfl)
  obtain ⟨fu1, hf1⟩ := h1
  obtain ⟨u1, l1, e1, hb1⟩ := open_rows (ea := encAc) (s := 3) (R := AcR W.heap) Try.underlying66 (by kernel_rfl) (by omega) encAc_len (fun fuel cs x hx => by
    obtain ⟨n, hl, hf⟩ := open_fields Try.underlying68 (by kernel_rfl) (by kernel_rfl) hx
    obtain ⟨c0, y0, e0, g0⟩ := hf 0 _ rfl
    obtain ⟨c1, y1, e1, g1⟩ := hf 1 _ rfl
    obtain ⟨c2, y2, e2, g2⟩ := hf 2 _ rfl
    obtain ⟨z0, l0, h0, hb⟩ := open_bytes Try.underlying23 Try.underlying5 (by kernel_rfl) g0
    obtain ⟨z1, h1, _, _⟩ := DataW.trod_int Try.underlying28 g1
    obtain ⟨z2, h2, _⟩ := DataW.trod_bool Try.underlying4 g2
    match cs, hl with
    | [a, b, c], _ =>
      simp only [List.getElem?_cons_zero, List.getElem?_cons_succ, Option.some.injEq] at e0 e1 e2
      simp only [List.cons.injEq, and_true] at h0 h1 h2
      subst e0 e1 e2 h0 h1 h2
      exact ⟨(_, z1, z2), (l0, z1, z2), rfl, rfl, hb⟩) hf1
  obtain rfl : Value.slice s1 len1 cap1 = u1 := by simpa [Value.cells] using e1
  have k2 := h2
  have lt2 : ∀ x ∈ p2, x.block < W.heap.size := by obtain ⟨m, hm⟩ := k2; exact DataW.trod_lt m _ _ _ hm
  obtain ⟨s2, len2, cap2, rfl⟩ := okWide_slice Try.underlying23 (hval 2 23 v2 rfl rfl)
  obtain ⟨fu2, hf2⟩ := h2
  obtain ⟨z2, rfl, sl2, ce2, wf2⟩ := open_row Try.underlying23 Try.underlying5 (by kernel_rfl) hf2
  obtain ⟨l2, hb2, _⟩ := bs_of_row sl2 ce2 wf2
  clear hA0 hval0
  refine (Ret.below (walk_BurstScript hb1 hb2)).mono fun e W' ⟨he, bel⟩ => ?_
  subst he
  exact ⟨_, rfl, _, _, _, [], _, [], hW', trodAll_mk1 (shut_bool Try.underlying4 _), (trodAll_cons_mk (shut_int Try.underlying3 w0) (trodAll_cons_mk (Below.trod rBurstScript_laidOut (by kernel_rfl) (of_decide_eq_true (by kernel_rfl)) k1 bel lt1) (trodAll_cons_mk (Below.trod rBurstScript_laidOut (by kernel_rfl) (of_decide_eq_true (by kernel_rfl)) k2 bel lt2) trodAll_mk0))), rfl, bel.frame _, fun h => by cases h⟩
theorem rBurstScript_over : Rows.burstScriptRow.holds Try.pinned (OpenSpec.ofChange Rows.burstScriptSpec) :=
  OpenClaim.holds_of_wide 10 Try.f10 rfl rfl rfl rfl rfl rfl rfl ⟨rfl, rfl, rfl, rfl, rfl⟩ rfl rfl rfl rfl rfl (by kernel_rfl) Try.func10 (by kernel_rfl)
    (of_decide_eq_true (by kernel_rfl)) (by unfold Func.isWrapper; first | (rw [if_pos (by decide +kernel)]; kernel_rfl) | (rw [if_neg (by decide +kernel)]; exact ⟨rfl, rfl⟩))
    (fun os started H enc _ => rBurstScript_lifted os started H enc)
theorem burstScript_holds : Rows.BurstScriptSaid := rBurstScript_over
#print axioms burstScript_holds
end Go.Proofs.Ytaloblomncjgkaa
