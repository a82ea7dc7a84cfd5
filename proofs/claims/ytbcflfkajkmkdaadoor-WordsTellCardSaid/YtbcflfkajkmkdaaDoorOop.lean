/- A parameter that is an operation. -/
import Derived.Test.YtbcflfkajkmkdaaDoorSy3
import Derived.ProofKit
import Derived.WideShapes
namespace Go.Proofs.YtbcflfkajkmkdaaDoor.X
open Go Go.Proofs
set_option linter.unusedVariables false
set_option maxRecDepth 10000

theorem open_pairsU {H : Type} {enc : TypeId × Value → H} {w : World} {base : Nat} {held : Bool} {fuel : Nat} {v : Value} {x : DataW H × List MemPlace}
    (h : DataW.trod enc Tryd.prog w base (fun _ => true) held fuel 24 [v] = some x) : ∃ l : List Pr, Ps w.heap v l ∧ ∀ p ∈ l, U64 p.2 := by
  have hv : ∃ a n c, v = .slice a n c := by
    rcases DataW.trod_slice Tryd.underlying24 h with ⟨e, _⟩ | ⟨a, l, c, _, _, _, _, e, _⟩
    · simp at e; exact ⟨_, _, _, e⟩
    · simp at e; exact ⟨_, _, _, e⟩
  obtain ⟨a, n, c, rfl⟩ := hv
  obtain ⟨l, hl, hP⟩ := open_pairs (te := 0) Tryd.underlying24 Tryd.underlying40 (by kernel_rfl) rfl rfl (by kernel_rfl) (by kernel_rfl) Tryd.underlying22 Tryd.underlying5 (by kernel_rfl) Tryd.underlying23 h
  refine ⟨l, hP, fun p hp => ?_⟩
  obtain ⟨i, hi, rfl⟩ := List.getElem_of_mem hp
  obtain ⟨kv, b1, b2, b3⟩ := hP.at_ i l[i] (List.getElem?_eq_getElem hi)
  rcases Go.Deep.open_slice_pairs Tryd.underlying24 Tryd.underlying40 (by kernel_rfl) rfl rfl (by kernel_rfl) (by kernel_rfl) h with ⟨hcs, _⟩ | ⟨ad, ln, cp, m, k, V0, V1, D0, D1, P0, P1, hcs, hb, hl2, hm, hmm, _, hx⟩
  · simp at hcs
    obtain ⟨rfl, rfl, rfl⟩ := hcs
    omega
  · simp at hcs
    obtain ⟨rfl, rfl, rfl⟩ := hcs
    simp only [if_true] at hmm
    subst hmm
    obtain ⟨_, k2, _, r1⟩ := hx i (by omega)
    obtain ⟨z, hz, _, hw⟩ := DataW.trod_int Tryd.underlying23 r1
    simp only [List.cons.injEq, and_true] at hz
    have k1 := (hx i (by omega)).1
    have hspot : ∃ b o, ad = ⟨b, o, none⟩ := by
      obtain ⟨b, o, s⟩ := ad
      cases s with
      | none => exact ⟨b, o, rfl⟩
      | some s =>
        have := hP.sl
        obtain ⟨a', c', e, _, _, h3⟩ := this
        simp only [Value.slice.injEq] at e
        obtain ⟨rfl, _, rfl⟩ := e
        rcases h3 with h3 | ⟨b', o', h3⟩
        · omega
        · simp at h3
    obtain ⟨b, o, rfl⟩ := hspot
    rw [addr_add, cell_heap, hz] at k2
    have b2' : cel w.heap b (o + i * 2 + 1) = some (.int .u64 l[i].2) := b2
    rw [Nat.add_assoc] at b2'
    rw [b2'] at k2
    simp only [Option.some.injEq, Value.int.injEq, true_and] at k2
    rw [k2]
    exact wf_u64 hw
theorem open_op {H : Type} {enc : TypeId × Value → H} {w : World} {base : Nat} {held : Bool} {fuel : Nat} {cs : List Value} {x : DataW H × List MemPlace}
    (h : DataW.trod enc Tryd.prog w base (fun _ => true) held fuel 26 cs = some x) : ∃ o vk vt vd vp, cs = opCells o vk vt vd vp ∧ OpV w.heap vk vt vd vp o ∧ OpOk o ∧ I64 o.kind := by
  obtain ⟨n, hl, hf⟩ := open_fields Tryd.underlying26 (by kernel_rfl) (by kernel_rfl) h
  obtain ⟨c0, y0, e0, g0⟩ := hf 0 _ rfl
  obtain ⟨c1, y1, e1, g1⟩ := hf 1 _ rfl
  obtain ⟨c2, y2, e2, g2⟩ := hf 2 _ rfl
  obtain ⟨c3, y3, e3, g3⟩ := hf 3 _ rfl
  obtain ⟨c4, y4, e4, g4⟩ := hf 4 _ rfl
  obtain ⟨c5, y5, e5, g5⟩ := hf 5 _ rfl
  obtain ⟨c6, y6, e6, g6⟩ := hf 6 _ rfl
  obtain ⟨c7, y7, e7, g7⟩ := hf 7 _ rfl
  obtain ⟨c8, y8, e8, g8⟩ := hf 8 _ rfl
  obtain ⟨c9, y9, e9, g9⟩ := hf 9 _ rfl
  obtain ⟨c10, y10, e10, g10⟩ := hf 10 _ rfl
  obtain ⟨c11, y11, e11, g11⟩ := hf 11 _ rfl
  obtain ⟨z0, h0, _, w0⟩ := DataW.trod_int Tryd.underlying3 g0
  obtain ⟨z1, h1, _, w1⟩ := DataW.trod_int Tryd.underlying3 g1
  obtain ⟨z2, h2, _, w2⟩ := DataW.trod_int Tryd.underlying3 g2
  obtain ⟨z3, h3, _, w3⟩ := DataW.trod_int Tryd.underlying3 g3
  obtain ⟨z4, h4, _, w4⟩ := DataW.trod_int Tryd.underlying3 g4
  obtain ⟨z5, h5, _, w5⟩ := DataW.trod_int Tryd.underlying3 g5
  obtain ⟨z6, h6, _, w6⟩ := DataW.trod_int Tryd.underlying3 g6
  obtain ⟨u7, l7, h7, b7⟩ := open_bytes Tryd.underlying22 Tryd.underlying5 (by kernel_rfl) g7
  obtain ⟨u8, l8, h8, b8⟩ := open_bytes Tryd.underlying22 Tryd.underlying5 (by kernel_rfl) g8
  obtain ⟨u9, l9, h9, b9⟩ := open_bytes Tryd.underlying22 Tryd.underlying5 (by kernel_rfl) g9
  obtain ⟨z10, h10, _, w10⟩ := DataW.trod_int Tryd.underlying23 g10
  obtain ⟨l11, b11, w11⟩ := open_pairsU g11
  match cs, hl with
  | [d0, d1, d2, d3, d4, d5, d6, d7, d8, d9, d10, d11], _ =>
    simp only [List.getElem?_cons_zero, List.getElem?_cons_succ, Option.some.injEq] at e0 e1 e2 e3 e4 e5 e6 e7 e8 e9 e10 e11
    simp only [List.cons.injEq, and_true] at h0 h1 h2 h3 h4 h5 h6 h7 h8 h9 h10
    subst e0 e1 e2 e3 e4 e5 e6 e7 e8 e9 e10 e11
    subst h0 h1 h2 h3 h4 h5 h6 h7 h8 h9 h10
    exact ⟨⟨z0, z1, z2, z3, z4, z5, z6, l7, l8, l9, z10, l11⟩, _, _, _, _, rfl, ⟨b7, b8, b9, b11⟩, ⟨wf_i64 w1, wf_i64 w2, wf_i64 w3, wf_i64 w4, wf_i64 w5, wf_i64 w6, wf_u64 w10, w11⟩, wf_i64 w0⟩
end Go.Proofs.YtbcflfkajkmkdaaDoor.X
