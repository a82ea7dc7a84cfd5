/-
  For all arenas and lists of acts: whatever is taken, given back, read and set, each call answers as chapter 5 says, and leaves the same cells. No condition.
-/
import Derived.Test.YtioaicleodjmpaaRows
import Derived.Test.YtioaicleodjmpaaLArena2
import Derived.ProofKit
import Derived.OpenShut
import Derived.ShutString
import Derived.ChangeOld
namespace Go.Proofs.Ytioaicleodjmpaa
open Go Go.ChangeShapes Go.WideShapes Go.ChangeAt Go.RowKit Ytioaicleodjmpaa.X
open Go.ChangeMaps (open_string shut_string)
set_option linter.unusedVariables false

theorem asc_own : ownKnob Try.prog.godebug = none := by kernel_rfl
theorem asc_laidOut : laidOutB Try.prog = true := by kernel_rfl
set_option maxRecDepth 100000 in
theorem asc_lifted (os : Os) (started : os.Started) (H : Type) (enc : TypeId × Value → H) :
    ReturnsInHanded {} Try.checked os 7 .any (Rows.arenaScriptSpec.pre6 enc Try.prog Try.f7 Rows.arenaScriptRow.domain false) (Rows.arenaScriptSpec.post enc Try.prog Try.f7 false true false false) := by
  refine returnsInHanded_of_change (C := Try.checked) asc_own started (by kernel_rfl) Try.func7
    (ChangeSpec.witness6 (enc := enc) (C := Try.checked) false ⟨#[], #[.int .i64 0, .slice none 0 0], []⟩ 8 (by kernel_rfl) (by kernel_rfl) (by kernel_rfl) (by kernel_rfl)) ?_
  intro W base args ds gs before hval0 hW hcnd _
  have hval : ∀ (j : Nat) t v, Try.f7.params[j]? = some t → args[j]? = some v → Value.okWide Try.prog W .any base t v := hval0
  have hW' := hW
  obtain ⟨p, q, hA0, hV, rfl, hfz, hnd⟩ := hW
  have hA : DataW.TrodAll enc Try.prog W 0 (fun _ => true) true Try.f7.params.toList args.toList ds p := hA0
  rw [Try.params7] at hA hval
  obtain ⟨v0, vs0, d0, ds0, p0, q0, hargs, rfl, rfl, h0, r0⟩ := trodAll_cons hA
  obtain ⟨v1, vs1, d1, ds1, p1, q1, rfl, rfl, rfl, h1, r1⟩ := trodAll_cons r0
  obtain ⟨rfl, rfl, rfl⟩ := trodAll_nil r1
  obtain rfl : args = #[v0, v1] := by cases args; simp_all
  obtain ⟨rfl, rfl⟩ := trodVars_none hV
  obtain ⟨a0, rfl, rfl, rfl, w0⟩ := open_int Try.underlying3 (hval 0 3 v0 rfl rfl) h0
  have k1 := h1
  have lt1 : ∀ x ∈ p1, x.block < W.heap.size := by obtain ⟨m, hm⟩ := k1; exact DataW.trod_lt m _ _ _ hm
  obtain ⟨s1, len1, cap1, rfl⟩ := okWide_slice Try.underlying45 (hval 1 45 v1 rfl rfl)
  obtain ⟨fu1, hf1⟩ := h1
  obtain ⟨u1, l1, e1, hb1⟩ := open_rows (ea := encAa) (s := 4) (R := AaR W.heap) Try.underlying45 (by kernel_rfl) (by omega) encAa_len (fun fuel cs x hx => by
    obtain ⟨n, hl, hf⟩ := open_fields Try.underlying49 (by kernel_rfl) (by kernel_rfl) hx
    obtain ⟨c0, y0, e0, g0⟩ := hf 0 _ rfl
    obtain ⟨c1, y1, e1, g1⟩ := hf 1 _ rfl
    obtain ⟨c2, y2, e2, g2⟩ := hf 2 _ rfl
    obtain ⟨c3, y3, e3, g3⟩ := hf 3 _ rfl
    obtain ⟨z0, h0, _, _⟩ := DataW.trod_int Try.underlying3 g0
    obtain ⟨z1, h1, _, _⟩ := DataW.trod_int Try.underlying3 g1
    obtain ⟨z2, h2, _, w2⟩ := DataW.trod_int Try.underlying25 g2
    obtain ⟨z3, l3, h3, hs, hc, _⟩ := Go.Proofs.Ytioaicleodjmpaa.X.open_ints Try.underlying36 Try.underlying31 (by kernel_rfl) g3
    have w := wf_u32 w2
    match cs, hl with
    | [a, b, c, d], _ =>
      simp only [List.getElem?_cons_zero, List.getElem?_cons_succ, Option.some.injEq] at e0 e1 e2 e3
      simp only [List.cons.injEq, and_true] at h0 h1 h2 h3
      subst e0 e1 e2 e3 h0 h1 h2 h3
      exact ⟨(z0, z1, z2, d), (z0, z1, z2.toNat, l3), rfl, rfl, rfl, by simp only; omega, by simp only; omega, hs, hc⟩) hf1
  obtain rfl : Value.slice s1 len1 cap1 = u1 := by simpa [Value.cells] using e1
  clear hA0 hval0
  refine (Ret.below (walk_ArenaScript hb1)).mono fun e W' ⟨he, bel⟩ => ?_
  subst he
  exact ⟨_, rfl, _, _, _, [], _, [], hW', trodAll_mk1 (shut_bool Try.underlying4 _), (trodAll_cons_mk (shut_int Try.underlying3 w0) (trodAll_cons_mk (Below.trod asc_laidOut (by kernel_rfl) (of_decide_eq_true (by kernel_rfl)) k1 bel lt1) trodAll_mk0)), rfl, bel.frame _, fun h => by cases h⟩
theorem asc_over : Rows.arenaScriptRow.holds Try.pinned (OpenSpec.ofChange Rows.arenaScriptSpec) :=
  OpenClaim.holds_of_wide 7 Try.f7 rfl rfl rfl rfl rfl rfl rfl ⟨rfl, rfl, rfl, rfl, rfl⟩ rfl rfl rfl rfl rfl (by kernel_rfl) Try.func7 (by kernel_rfl)
    (of_decide_eq_true (by kernel_rfl)) (by unfold Func.isWrapper; first | (rw [if_pos (by decide +kernel)]; kernel_rfl) | (rw [if_neg (by decide +kernel)]; exact ⟨rfl, rfl⟩))
    (fun os started H enc _ => asc_lifted os started H enc)
theorem arenaScript_holds : Rows.ArenaScriptSaid := asc_over
#print axioms arenaScript_holds
end Go.Proofs.Ytioaicleodjmpaa
