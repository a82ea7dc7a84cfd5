/-
  For all lists of pairs and acts: whatever is put and dropped, each call answers as a plain map does, but for a pair too many. No condition.
-/
import Derived.Test.YtngnoapfmfneaaaRows
import Derived.Test.YtngnoapfmfneaaaLShf3
import Derived.ProofKit
import Derived.OpenShut
import Derived.ShutString
import Derived.ChangeOld
namespace Go.Proofs.Ytngnoapfmfneaaa
open Go Go.ChangeShapes Go.WideShapes Go.ChangeAt Go.RowKit Ytngnoapfmfneaaa.X
open Go.ChangeMaps (open_string shut_string)
set_option linter.unusedVariables false

theorem rShelfScript_own : ownKnob Try.prog.godebug = none := by kernel_rfl
theorem rShelfScript_laidOut : laidOutB Try.prog = true := by kernel_rfl
set_option maxRecDepth 100000 in
theorem rShelfScript_lifted (os : Os) (started : os.Started) (H : Type) (enc : TypeId × Value → H) :
    ReturnsInHanded {} Try.checked os 5 .any (Rows.shelfScriptSpec.pre6 enc Try.prog Try.f5 Rows.shelfScriptRow.domain false) (Rows.shelfScriptSpec.post enc Try.prog Try.f5 false true false false) := by
  refine returnsInHanded_of_change (C := Try.checked) rShelfScript_own started (by kernel_rfl) Try.func5
    (ChangeSpec.witness6 (enc := enc) (C := Try.checked) false ⟨#[], #[.slice none 0 0, .slice none 0 0], []⟩ 8 (by kernel_rfl) (by kernel_rfl) (by kernel_rfl) (by kernel_rfl)) ?_
  intro W base args ds gs before hval0 hW hcnd _
  have hval : ∀ (j : Nat) t v, Try.f5.params[j]? = some t → args[j]? = some v → Value.okWide Try.prog W .any base t v := hval0
  have hW' := hW
  obtain ⟨p, q, hA0, hV, rfl, hfz, hnd⟩ := hW
  have hA : DataW.TrodAll enc Try.prog W 0 (fun _ => true) true Try.f5.params.toList args.toList ds p := hA0
  rw [Try.params5] at hA hval
  obtain ⟨v0, vs0, d0, ds0, p0, q0, hargs, rfl, rfl, h0, r0⟩ := trodAll_cons hA
  obtain ⟨v1, vs1, d1, ds1, p1, q1, rfl, rfl, rfl, h1, r1⟩ := trodAll_cons r0
  obtain ⟨rfl, rfl, rfl⟩ := trodAll_nil r1
  obtain rfl : args = #[v0, v1] := by cases args; simp_all
  obtain ⟨rfl, rfl⟩ := trodVars_none hV
  have k0 := h0
  have lt0 : ∀ x ∈ p0, x.block < W.heap.size := by obtain ⟨m, hm⟩ := k0; exact DataW.trod_lt m _ _ _ hm
  obtain ⟨s0, len0, cap0, rfl⟩ := okWide_slice Try.underlying22 (hval 0 22 v0 rfl rfl)
  obtain ⟨fu0, hf0⟩ := h0
  obtain ⟨l0, ll0, hb0⟩ := open_pairs (te := 0) Try.underlying22 Try.underlying37 (by kernel_rfl) rfl rfl (by kernel_rfl) (by kernel_rfl) Try.underlying34 Try.underlying5 (by kernel_rfl) Try.underlying35 hf0
  have k1 := h1
  have lt1 : ∀ x ∈ p1, x.block < W.heap.size := by obtain ⟨m, hm⟩ := k1; exact DataW.trod_lt m _ _ _ hm
  obtain ⟨s1, len1, cap1, rfl⟩ := okWide_slice Try.underlying51 (hval 1 51 v1 rfl rfl)
  obtain ⟨fu1, hf1⟩ := h1
  obtain ⟨u1, l1, e1, hb1⟩ := open_rows (ea := encAc) (s := 3) (R := AcR W.heap) Try.underlying51 (by kernel_rfl) (by omega) encAc_len (fun fuel cs x hx => by
    obtain ⟨n, hl, hf⟩ := open_fields Try.underlying55 (by kernel_rfl) (by kernel_rfl) hx
    obtain ⟨c0, y0, e0, g0⟩ := hf 0 _ rfl
    obtain ⟨c1, y1, e1, g1⟩ := hf 1 _ rfl
    obtain ⟨c2, y2, e2, g2⟩ := hf 2 _ rfl
    obtain ⟨z0, l0, h0, hb⟩ := open_bytes Try.underlying34 Try.underlying5 (by kernel_rfl) g0
    obtain ⟨z1, h1, _, _⟩ := DataW.trod_int Try.underlying35 g1
    obtain ⟨z2, h2, _⟩ := DataW.trod_bool Try.underlying4 g2
    match cs, hl with
    | [a, b, c], _ =>
      simp only [List.getElem?_cons_zero, List.getElem?_cons_succ, Option.some.injEq] at e0 e1 e2
      simp only [List.cons.injEq, and_true] at h0 h1 h2
      subst e0 e1 e2 h0 h1 h2
      exact ⟨(_, z1, z2), (l0, z1, z2), rfl, rfl, hb⟩) hf1
  obtain rfl : Value.slice s1 len1 cap1 = u1 := by simpa [Value.cells] using e1
  clear hA0 hval0
  refine (Ret.below (walk_ShelfScript hb0 hb1)).mono fun e W' ⟨he, bel⟩ => ?_
  subst he
  exact ⟨_, rfl, _, _, _, [], _, [], hW', trodAll_mk1 (shut_bool Try.underlying4 _), (trodAll_cons_mk (Below.trod rShelfScript_laidOut (by kernel_rfl) (of_decide_eq_true (by kernel_rfl)) k0 bel lt0) (trodAll_cons_mk (Below.trod rShelfScript_laidOut (by kernel_rfl) (of_decide_eq_true (by kernel_rfl)) k1 bel lt1) trodAll_mk0)), rfl, bel.frame _, fun h => by cases h⟩
theorem rShelfScript_over : Rows.shelfScriptRow.holds Try.pinned (OpenSpec.ofChange Rows.shelfScriptSpec) :=
  OpenClaim.holds_of_wide 5 Try.f5 rfl rfl rfl rfl rfl rfl rfl ⟨rfl, rfl, rfl, rfl, rfl⟩ rfl rfl rfl rfl rfl (by kernel_rfl) Try.func5 (by kernel_rfl)
    (of_decide_eq_true (by kernel_rfl)) (by unfold Func.isWrapper; first | (rw [if_pos (by decide +kernel)]; kernel_rfl) | (rw [if_neg (by decide +kernel)]; exact ⟨rfl, rfl⟩))
    (fun os started H enc _ => rShelfScript_lifted os started H enc)
theorem shelfScript_holds : Rows.ShelfScriptSaid := rShelfScript_over
#print axioms shelfScript_holds
end Go.Proofs.Ytngnoapfmfneaaa
