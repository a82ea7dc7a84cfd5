/-
  For all tags and cells: whether any cells are a tree, of which pairs, and how deep, is the document's. No condition but what the card ties: two tables of the program.
-/
import Derived.Test.YtkdmcbacofafpaaDoorRows
import Derived.Test.YtkdmcbacofafpaaDoorCards
import Derived.Test.YtkdmcbacofafpaaDoorTie
import Derived.Test.YtkdmcbacofafpaaDoorDoor11
import Derived.ProofKit
import Derived.OpenShut
import Derived.ShutString
import Derived.ChangeOld
import Derived.SevenTiedAt
namespace Go.Proofs.YtkdmcbacofafpaaDoor
open Go Go.ChangeShapes Go.WideShapes Go.ChangeAt Go.RowKit YtkdmcbacofafpaaDoor.X
open Go.ChangeMaps (open_string shut_string)
set_option linter.unusedVariables false

instance : Inhabited (Cel × Value × Value) := ⟨zCel⟩
instance : Inhabited Cel := ⟨{}⟩
/-- a cell as a parameter -/
def CelP (H : Heap) (x : Cel × Value × Value) (c : Cel) : Prop := CelR (fun z => z < H.size) H x c ∧ NumC c
theorem open_cells {Hh : Type} {enc : TypeId × Value → Hh} {w : World} {base : Nat} {held : Bool} {fuel : Nat} {cs : List Value} {x : DataW Hh × List MemPlace}
    (h : DataW.trod enc Tryd.prog w base (fun _ => true) held fuel 22 cs = some x) : ∃ v l, cs = [v] ∧ Rd encC (CelP w.heap) w.heap v l :=
  open_rows (ea := encC) (s := 9) (R := CelP w.heap) Tryd.underlying22 (by kernel_rfl) (by omega) encC_len (fun fuel cs x hx => by
    obtain ⟨n, hl, hf⟩ := open_fields Tryd.underlying40 (by kernel_rfl) (by kernel_rfl) hx
    obtain ⟨c0, y0, e0, g0⟩ := hf 0 _ rfl
    obtain ⟨c1, y1, e1, g1⟩ := hf 1 _ rfl
    obtain ⟨c2, y2, e2, g2⟩ := hf 2 _ rfl
    obtain ⟨c3, y3, e3, g3⟩ := hf 3 _ rfl
    obtain ⟨c4, y4, e4, g4⟩ := hf 4 _ rfl
    obtain ⟨c5, y5, e5, g5⟩ := hf 5 _ rfl
    obtain ⟨c6, y6, e6, g6⟩ := hf 6 _ rfl
    obtain ⟨c7, y7, e7, g7⟩ := hf 7 _ rfl
    obtain ⟨c8, y8, e8, g8⟩ := hf 8 _ rfl
    obtain ⟨z0, h0, _, w0⟩ := DataW.trod_int Tryd.underlying3 g0
    obtain ⟨z1, h1, _, w1⟩ := DataW.trod_int Tryd.underlying3 g1
    obtain ⟨z2, h2, _, w2⟩ := DataW.trod_int Tryd.underlying3 g2
    obtain ⟨z3, h3, _, w3⟩ := DataW.trod_int Tryd.underlying3 g3
    obtain ⟨z4, h4, _, w4⟩ := DataW.trod_int Tryd.underlying5 g4
    obtain ⟨z5, h5, _⟩ := DataW.trod_bool Tryd.underlying4 g5
    obtain ⟨z6, h6, _, w6⟩ := DataW.trod_int Tryd.underlying37 g6
    obtain ⟨v7, l7, h7, hb7⟩ := open_bytes Tryd.underlying38 Tryd.underlying5 (by kernel_rfl) g7
    obtain ⟨l8, hb8⟩ : ∃ l8 : List Pr, Ps w.heap c8 l8 := by
      rcases DataW.trod_slice Tryd.underlying26 g8 with ⟨e, _⟩ | ⟨a, l, c, _, _, _, _, e, _⟩
      · simp only [List.cons.injEq, and_true] at e
        subst e
        exact ⟨[], Ps.nil _⟩
      · simp only [List.cons.injEq, and_true] at e
        subst e
        obtain ⟨l8, _, hb⟩ := open_pairs (te := 0) Tryd.underlying26 Tryd.underlying47 (by kernel_rfl) rfl rfl (by kernel_rfl) (by kernel_rfl) Tryd.underlying38 Tryd.underlying5 (by kernel_rfl) Tryd.underlying37 g8
        exact ⟨l8, hb⟩
    have w0 := wf_i64 w0
    have w1 := wf_i64 w1
    have w3 := wf_i64 w3
    obtain ⟨b4, rfl⟩ := wf_u8 w4
    match cs, hl with
    | [a0, a1, a2, a3, a4, a5, a6, a7, a8], _ =>
      simp only [List.getElem?_cons_zero, List.getElem?_cons_succ, Option.some.injEq] at e0 e1 e2 e3 e4 e5 e6 e7 e8
      simp only [List.cons.injEq, and_true] at h0 h1 h2 h3 h4 h5 h6 h7
      subst e0 e1 e2 e3 e4 e5 e6 e7 e8 h0 h1 h2 h3 h4 h5 h6 h7
      refine ⟨(⟨z0, z1, z2, z3, b4, z5, z6, l7, l8⟩, a7, a8), ⟨z0, z1, z2, z3, b4, z5, z6, l7, l8⟩, rfl, ⟨rfl, ⟨hb7, fun hne => hb7.lt hne⟩, ?_, ?_⟩, ⟨w0, w1, w3⟩⟩
      · obtain ⟨q, hq, hc⟩ := hb8.row
        exact ⟨hb8.sl, q, hq.mono (fun _ _ hb => ⟨hb, fun hne => hb.lt hne⟩), hc⟩
      · intro hne
        obtain ⟨p, hp⟩ : ∃ p, l8[0]? = some p := ⟨_, List.getElem?_eq_getElem (List.length_pos_iff.2 hne)⟩
        obtain ⟨k, hk, _⟩ := hb8.at_ 0 p hp
        exact lt_of_cel hk) h
theorem cells_row {H : Heap} {v : Value} {l : List Cel} (h : Rd encC (CelP H) H v l) : CR H.size H v l ∧ (l ≠ [] → sb v < H.size) ∧ ∀ c ∈ l, NumC c := by
  refine ⟨h.mono fun _ _ hc => hc.1, fun hne => ?_, fun c hc => ?_⟩
  · obtain ⟨c, hc⟩ : ∃ c, l[0]? = some c := ⟨_, List.getElem?_eq_getElem (List.length_pos_iff.2 hne)⟩
    obtain ⟨x, _, hx⟩ := Rd.cel h encC_len hc
    have := hx 0 (by omega)
    exact lt_of_cel (this.trans (by rfl : (encC x)[0]? = some (.int .i64 x.1.kind)))
  · obtain ⟨i, hi⟩ := List.mem_iff_getElem?.1 hc
    obtain ⟨x, hx, _⟩ := Rd.cel h encC_len hi
    exact hx.2
theorem walk_ShapeTells' {tag : Int} {l : List Cel} {vc : Value} {H : Heap} (h : Rd encC (CelP H) H vc l) (hL : Laid H) : Ret Tryd.prog 3 [.int .i64 tag, vc] H (fun r H' => Keep Non H H' ∧ r = .bool true) :=
  let ⟨h1, h2, h3⟩ := cells_row h
  walk_ShapeTells h1 h2 h3 hL

theorem r11Tells_laidOut : laidOutB Tryd.prog = true := by kernel_rfl
set_option maxRecDepth 100000 in
theorem r11Tells_lifted (os : Os) (started : os.Started) (H : Type) (enc : TypeId × Value → H) :
    ReturnsInHanded {} Tryd.checked os 3 .any (fun w args => (Rows.shapeTellsSpec.pre enc Tryd.prog Tryd.f3 [] false w args ∧ laidMetH Tryd.prog laidL w) ∧ sizedMet enc Tryd.prog Tryd.f3 (OpenSpec.ofChange Rows.shapeTellsSpec) false w args)
      (Rows.shapeTellsSpec.post enc Tryd.prog Tryd.f3 false true false false) := by
  refine returnsInHanded_of_change_and (C := Tryd.checked) (X := fun w _ => laidMetH Tryd.prog laidL w) (fun _ _ _ hh h => h.of_heap hh) knobOwn started (by kernel_rfl) Tryd.func3
    (ChangeSpec.witness_shaped (enc := enc) (C := Tryd.checked) (os := os) (X := fun w _ => laidMetH Tryd.prog laidL w) false (World.doorLaid Tryd.prog 400 os) #[.int .i64 0, .slice none 0 0] 8 rfl (World.shaped_of_RefB (by kernel_rfl) (by kernel_rfl)) (by kernel_rfl) (by kernel_rfl) (by kernel_rfl) (door_met os _)) ?_
  intro W base args ds gs before hval0 hW _ _ hL _
  have hval : ∀ (j : Nat) t v, Tryd.f3.params[j]? = some t → args[j]? = some v → Value.okWide Tryd.prog W .any base t v := hval0
  have hLd := of_laid hL
  have hW' := hW
  obtain ⟨p, q, hA0, hV, rfl, hfz, hnd⟩ := hW
  have hA : DataW.TrodAll enc Tryd.prog W 0 (fun _ => true) true Tryd.f3.params.toList args.toList ds p := hA0
  rw [Tryd.params3] at hA hval
  obtain ⟨v0, vs0, d0, ds0, p0, q0, hargs, rfl, rfl, h0, r0⟩ := trodAll_cons hA
  obtain ⟨v1, vs1, d1, ds1, p1, q1, rfl, rfl, rfl, h1, r1⟩ := trodAll_cons r0
  obtain ⟨rfl, rfl, rfl⟩ := trodAll_nil r1
  obtain rfl : args = #[v0, v1] := by cases args; simp_all
  obtain ⟨rfl, rfl⟩ := trodVars_none hV
  obtain ⟨a0, rfl, rfl, rfl, w0⟩ := open_int Tryd.underlying3 (hval 0 3 v0 rfl rfl) h0
  have k1 := h1
  have lt1 : ∀ x ∈ p1, x.block < W.heap.size := by obtain ⟨m, hm⟩ := k1; exact DataW.trod_lt m _ _ _ hm
  obtain ⟨s1, len1, cap1, rfl⟩ := okWide_slice Tryd.underlying22 (hval 1 22 v1 rfl rfl)
  obtain ⟨fu1, hf1⟩ := h1
  obtain ⟨u1, l1, e1, hb1⟩ := open_cells hf1
  obtain rfl : Value.slice s1 len1 cap1 = u1 := by simpa [Value.cells] using e1
  clear hA0 hval0
  refine (Ret.below (((walk_ShapeTells' hb1 hLd).mono fun _ _ h => ⟨h.2, h.1⟩))).mono fun e W' ⟨he, bel⟩ => ?_
  subst he
  exact ⟨_, rfl, _, _, _, [], _, [], hW', trodAll_mk1 (shut_bool Tryd.underlying4 _), (trodAll_cons_mk (shut_int Tryd.underlying3 w0) (trodAll_cons_mk (Below.trod r11Tells_laidOut (by kernel_rfl) (of_decide_eq_true (by kernel_rfl)) k1 bel lt1) trodAll_mk0)), rfl, bel.frame _, fun h => by cases h⟩
theorem r11Tells_over : Rows.shapeTellsRow.holds Tryd.pinned (OpenSpec.ofChange Rows.shapeTellsSpec) :=
  OpenClaim.holds_of_wide 3 Tryd.f3 rfl rfl rfl rfl rfl rfl rfl ⟨rfl, rfl, rfl, rfl, rfl⟩ rfl rfl rfl rfl rfl (by kernel_rfl) Tryd.func3 (by kernel_rfl)
    (of_decide_eq_true (by kernel_rfl)) (by unfold Func.isWrapper; first | (rw [if_pos (by decide +kernel)]; kernel_rfl) | (rw [if_neg (by decide +kernel)]; exact ⟨rfl, rfl⟩))
    (fun os started H enc _ => r11Tells_lifted os started H enc)
theorem shapeTells_holds : Rows.ShapeTellsCardSaid :=
  Claim7.holds_tied_plain_at .later [] [.data, .data] true (true, "9ff9561c1a00305e0d77d98eefdfe3462246cb42631a1ca6ed888658d6ad0af8") false
    r11Tells_over (fun _ h => by cases h) (by kernel_rfl) (fun _ h => by cases h) shapeTells_row_tie rfl ⟨rfl, rfl⟩ (by kernel_rfl) rfl
    (fun f fn hf hfn => by
      obtain rfl : f = 3 := Option.some.inj ((show Tryd.prog.funcNamed "bramble/bramblelaw11.ShapeTells" = some 3 by kernel_rfl).symm.trans hf) |>.symm
      obtain rfl : fn = Tryd.f3 := (Option.some.inj (Tryd.func3.symm.trans hfn)).symm
      exact ⟨by kernel_rfl, fun j t ht => by
        rw [Tryd.params3] at ht
        have hm : t ∈ [3, 22] := by simpa using Array.mem_of_getElem? ht
        have hall : ([3, 22].all fun u => !Tryd.prog.wantsStandIn u) = true := by kernel_rfl
        exact (show Tryd.prog.wantsStandIn t = false by simpa using List.all_eq_true.1 hall t hm)⟩)
    (by kernel_rfl)
#print axioms shapeTells_holds
end Go.Proofs.YtkdmcbacofafpaaDoor
