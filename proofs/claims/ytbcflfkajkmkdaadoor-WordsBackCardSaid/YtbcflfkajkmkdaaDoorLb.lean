/- What the library's functions answer, as this walk says it; the laid variables. -/
import Derived.Test.YtbcflfkajkmkdaaDoorBld
import Derived.Test.YtbcflfkajkmkdaaDoorKw2
namespace Go.Proofs.YtbcflfkajkmkdaaDoor.X
open Go Go.Proofs Go.RowKit Go.Sort
set_option linter.unusedVariables false
set_option linter.unusedSimpArgs false
set_option maxRecDepth 10000

def VarC (H : Heap) (g : Nat) (cs : Array Value) : Prop := ∃ T fz, H[g]? = some (.cells cs T fz)
theorem VarC.keep {S : Nat → Prop} {H H' : Heap} {g : Nat} {cs : Array Value} (h : VarC H g cs) (k : Keep S H H') (hS : ¬ S g) : VarC H' g cs := let ⟨T, fz, h⟩ := h; ⟨T, fz, k.get h hS⟩
theorem VarC.var {w : World} {P : Program} {n : String} {g : Nat} {cs : Array Value} (hg : P.globalNamed n = some g) (h : VarC w.heap g cs) : w.var? P n = some cs := by
  obtain ⟨T, fz, h⟩ := h
  simp [World.var?, hg, h]
theorem VarC.cel {H : Heap} {g : Nat} {cs : Array Value} (h : VarC H g cs) (o : Nat) : cel H g o = cs[o]? := by
  obtain ⟨T, fz, h⟩ := h
  exact cel_of_blk h o
def strV (l : Bytes) : Value := .string ⟨l.toArray⟩
structure Laid24 (H : Heap) : Prop where
  names : VarC H 0 (names24.map strV).toArray
  tab : VarC H 1 (Lib.pow10Tab.map fun z => Value.int .u64 z).toArray
  mx : ∃ m, cel H 2 0 = some (.int .i64 m)
  syn : ∃ tp p, VarC H 7 #[.iface tp p]
  rng : ∃ tp p, VarC H 8 #[.iface tp p]
theorem Laid24.keepS {S : Nat → Prop} {H H' : Heap} (h : Laid24 H) (k : Keep S H H') (hS : ∀ z, z < 9 → ¬ S z) : Laid24 H' :=
  ⟨h.names.keep k (hS _ (by omega)), h.tab.keep k (hS _ (by omega)), let ⟨m, e⟩ := h.mx; ⟨m, k.cel e (hS _ (by omega))⟩, let ⟨a, b, e⟩ := h.syn; ⟨a, b, e.keep k (hS _ (by omega))⟩, let ⟨a, b, e⟩ := h.rng; ⟨a, b, e.keep k (hS _ (by omega))⟩⟩
theorem Laid24.keepN {H H' : Heap} (h : Laid24 H) (k : Keep Non H H') : Laid24 H' := h.keepS k (fun _ _ h => h)
theorem Laid24.size {H : Heap} (h : Laid24 H) : 9 ≤ H.size := by
  obtain ⟨_, _, T, fz, e⟩ := h.rng
  exact lt_of_blk e

theorem ret_mk {P : Program} {f : Nat} {args : List Value} {H : Heap} {Φ : Value → Heap → Prop} (h : ∀ w, w.heap = H → Calls P f args.toArray w (RetB w Φ)) : Ret P f args H Φ := by
  unfold Ret
  exact h
theorem ret_same {P : Program} {f : Nat} {args : List Value} {H : Heap} {r : Value} (h : ∀ w, w.heap = H → Calls P f args.toArray w fun e w' => e = .returned r ∧ w' = w) : Ret P f args H (fun v H' => H = H' ∧ v = r) := ret_mk fun w hw => by
  refine (h w hw).mono ?_
  rintro e w' ⟨rfl, rfl⟩
  exact ⟨_, rfl, ⟨rfl, rfl, rfl, rfl⟩, hw.symm, rfl⟩
theorem drewN_facts (n : Nat) (w : World) : (w.drewN n).heap = w.heap ∧ (w.drewN n).os = w.os ∧ (w.drewN n).tape = w.tape ∧ (w.drewN n).output = w.output := by
  induction n generalizing w with
  | zero => exact ⟨rfl, rfl, rfl, rfl⟩
  | succ n ih => exact ih w.drew
theorem ret_drew {P : Program} {f : Nat} {args : List Value} {H : Heap} {r : Value} (h : ∀ w, w.heap = H → Calls P f args.toArray w fun e w' => e = .returned r ∧ ∃ n, w' = w.drewN n) : Ret P f args H (fun v H' => H = H' ∧ v = r) := ret_mk fun w hw => by
  refine (h w hw).mono ?_
  rintro e w' ⟨rfl, n, rfl⟩
  obtain ⟨h1, h2, h3, h4⟩ := drewN_facts n w
  exact ⟨_, rfl, ⟨rfl, h2, h3, h4⟩, by rw [h1, hw], rfl⟩
theorem below_keep {w w' : World} {B : Nat} (h : Below B w w') : Keep (fun z => B ≤ z) w.heap w'.heap := ⟨h.size, fun b hb hn => h.block b (by omega)⟩
theorem below_non {w w' : World} (h : Below w.heap.size w w') : Keep Non w.heap w'.heap := (below_keep h).mono fun z hz hb => by omega
theorem wd_below {w w' : World} {B : Nat} (h : Below B w w') : Wd w w'.heap w' := ⟨rfl, h.os, h.tape, h.output⟩

theorem law_IndexByte (s : ByteArray) (c : UInt8) (H : Heap) : Ret Tryd.prog 60 [.string s, .int .u8 c.toNat] H (fun v H' => H = H' ∧ v = .int .i64 (Lib.indexByte s.data.toList c)) :=
  (ret_same fun w _ => Tryd.strings_IndexByte s c.toNat w).mono fun v H' ⟨h1, h2⟩ => ⟨h1, by rw [h2]; simp⟩
theorem law_Itoa {n : Int} {H : Heap} (hn : I64 n) (hL : Laid24 H) : Ret Tryd.prog 20 [.int .i64 n] H (fun v H' => Keep Non H H' ∧ v = strV (Lib.itoa n)) := ret_mk fun w hw => by
  subst hw
  refine (Tryd.strconv_Itoa n hn.1 hn.2 w (hL.tab.var (by kernel_rfl))).mono ?_
  rintro e w' ⟨rfl, k, os, rfl⟩
  obtain ⟨h1, h2, h3, h4⟩ := drewN_facts k w
  refine ⟨_, rfl, ⟨rfl, h2, h3, h4⟩, ?_, rfl⟩
  refine ⟨by simp [grow, h1], fun b hb _ => ?_⟩
  show ((w.drewN k).heap ++ os)[b]? = _
  rw [h1, Array.getElem?_append_left hb]
theorem law_Cut {s : ByteArray} {c : UInt8} {H : Heap} (hs : s.size < 4294967281) (hL : Laid24 H) : Ret Tryd.prog 26 [.string s, .string ⟨#[c]⟩] H (fun v H' => H = H' ∧ ∃ b, v = .tuple #[strV (cutA c s.data.toList), strV (cutB c s.data.toList), .bool b]) := by
  obtain ⟨m, hm⟩ := hL.mx
  refine (ret_drew (r := .tuple #[strV (cutA c s.data.toList), strV (cutB c s.data.toList), .bool (Lib.cut s.data.toList [c]).2.2]) fun w hw => ?_).mono fun v H' ⟨h1, h2⟩ => ⟨h1, _, h2⟩
  have := Tryd.strings_Cut s ⟨#[c]⟩ m w hs (by rw [cell_heap, hw]; exact hm)
  rw [← (lib_cut c s.data.toList).1, ← (lib_cut c s.data.toList).2]
  exact this
theorem law_Split {s : ByteArray} {c : UInt8} {H : Heap} (hs : s.size < 4294967281) (hL : Laid24 H) : Ret Tryd.prog 24 [.string s, .string ⟨#[c]⟩] H (fun v H' => v = .slice (some ⟨H.size, 0, none⟩) (partsC c s.data.toList).length (partsC c s.data.toList).length ∧ New H H' ((partsC c s.data.toList).map strV)) := ret_mk fun w hw => by
  subst hw
  obtain ⟨m, hm⟩ := hL.mx
  refine (Tryd.strings_Split s ⟨#[c]⟩ m w hs (by rw [cell_heap]; exact hm) (Nat.le_refl 1)).mono ?_
  rintro e w' ⟨rfl, rfl⟩
  have e1 := split_pieces c s
  have e2 : (Lib.splitB ⟨#[c]⟩ 0 (Lib.countB s ⟨#[c]⟩) s).map Value.string = (partsC c s.data.toList).map strV := by
    rw [← e1, List.map_map]
    rfl
  have e3 : Lib.countB s ⟨#[c]⟩ + 1 = (partsC c s.data.toList).length := by
    rw [← e1, List.length_map, Lib.splitB_all ⟨#[c]⟩ (Nat.le_refl 1) 0 _ s rfl]
  rw [e2, e3]
  exact ⟨_, rfl, ⟨rfl, rfl, rfl, rfl⟩, rfl, new_push _ _ _⟩
/-- a number with a sign, or an error -/
def NumR (H : Heap) (kd : IntKind) (ok : Option Int) (v : Value) (H' : Heap) : Prop := Keep Non H H' ∧ ((∃ n, ok = some n ∧ v = .tuple #[.int kd n, .nilIface]) ∨ (ok = none ∧ ∃ n T a, v = .tuple #[.int kd n, .iface T (.pointer (some a))]))
theorem law_Atoi {s : ByteArray} {H : Heap} (hs : s.size ≤ 281474976710656) (hL : Laid24 H) : Ret Tryd.prog 59 [.string s] H (NumR H .i64 (match Lib.atoiAll s.data.toList with | .ok v => some v | _ => none)) := ret_mk fun w hw => by
  subst hw
  rcases hx : Lib.atoiAll s.data.toList with v | _ | _
  · refine (Tryd.strconv_Atoi_ok s (by omega) v hx w).mono ?_
    rintro e w' ⟨rfl, rfl | ⟨t, rfl⟩⟩
    · exact ⟨_, rfl, ⟨rfl, rfl, rfl, rfl⟩, Keep.refl _ _, .inl ⟨v, rfl, rfl⟩⟩
    · have hb := Lib.bytesWorld_below w 5 t
      exact ⟨_, rfl, wd_below hb, below_non hb, .inl ⟨v, rfl, rfl⟩⟩
  · obtain ⟨tp, p, hv⟩ := hL.syn
    refine (Tryd.strconv_Atoi_syntax_var s hs (by rw [hx]; trivial) tp p w (hv.var (by kernel_rfl))).mono ?_
    rintro e w' ⟨N, rfl, _, _, hb⟩
    exact ⟨_, rfl, wd_below hb, below_non hb, .inr ⟨rfl, _, _, _, rfl⟩⟩
  · obtain ⟨tp, p, hv⟩ := hL.rng
    refine (Tryd.strconv_Atoi_range_var s hs hx tp p w (hv.var (by kernel_rfl))).mono ?_
    rintro e w' ⟨N, rfl, _, _, hb⟩
    exact ⟨_, rfl, wd_below hb, below_non hb, .inr ⟨rfl, _, _, _, rfl⟩⟩
theorem law_ParseUint {s : ByteArray} {H : Heap} (hs : s.size ≤ 281474976710656) (hL : Laid24 H) : Ret Tryd.prog 61 [.string s, .int .i64 10, .int .i64 64] H (NumR H .u64 (match Lib.parseUintB 64 s.data.toList with | .ok v => some (v : Int) | _ => none)) := ret_mk fun w hw => by
  subst hw
  rcases hx : Lib.parseUintB 64 s.data.toList with v | _ | _
  · refine (Tryd.strconv_ParseUint_10_at64_ok s (by omega) v hx w).mono ?_
    rintro e w' ⟨rfl, rfl | rfl⟩
    · exact ⟨_, rfl, ⟨rfl, rfl, rfl, rfl⟩, Keep.refl _ _, .inl ⟨_, rfl, rfl⟩⟩
    · have hb := Lib.bytesWorld_below w 5 s
      exact ⟨_, rfl, wd_below hb, below_non hb, .inl ⟨_, rfl, rfl⟩⟩
  · obtain ⟨tp, p, hv⟩ := hL.syn
    refine (Tryd.strconv_ParseUint_10_at64_syntax_var s hs (by rw [hx]; trivial) tp p w (hv.var (by kernel_rfl))).mono ?_
    rintro e w' ⟨N, rfl, _, _, hb⟩
    exact ⟨_, rfl, wd_below hb, below_non hb, .inr ⟨rfl, _, _, _, rfl⟩⟩
  · obtain ⟨tp, p, hv⟩ := hL.rng
    refine (Tryd.strconv_ParseUint_10_at64_range_var s hs hx tp p w (hv.var (by kernel_rfl))).mono ?_
    rintro e w' ⟨N, rfl, _, _, hb⟩
    exact ⟨_, rfl, wd_below hb, below_non hb, .inr ⟨rfl, _, _, _, rfl⟩⟩
theorem law_BString {H : Heap} {b : Nat} {v : Value} {l : Bytes} (B : Nat) (h : Bd H b v l) (hB : B ≤ b) (hv : ∀ g, v.ownBlock = some g → B ≤ g) : Ret Tryd.prog 23 [ptr b 0] H (fun r H' => r = strV l ∧ Keep (fun z => B ≤ z) H H') := ret_mk fun w hw => by
  subst hw
  obtain ⟨⟨p, hp, h1⟩, ⟨w2, hw2, h2⟩, h3⟩ := h
  have ho : w.ownsRow B 5 1 v (Lib.byteCells l).length (Lib.byteCells l) := by
    rw [Lib.byteCells_length]
    unfold World.ownsRow at h2 ⊢
    refine ⟨h2.1, h2.2.imp id ?_⟩
    rintro ⟨g, cap, cur, rfl, h4, h5, h6⟩
    exact ⟨g, cap, cur, rfl, hv g rfl, by rw [← hw2]; exact h5, h6⟩
  have hI : Lib.IsBuilder 49 5 B b (Lib.byteCells l) w := by
    rcases hp with rfl | rfl
    · exact .inl ⟨hB, v, h1, ho, h3⟩
    · exact .inr ⟨hB, v, h1, ho, h3⟩
  have hBw : B ≤ w.heap.size := by have := lt_of_blk h1; omega
  refine (Tryd.Builder_String_any B b l w hI hBw).mono ?_
  rintro e w' ⟨rfl, hb⟩
  exact ⟨_, rfl, wd_below hb, rfl, below_keep hb⟩
theorem law_small (i : Nat) (hi : i < 100) (H : Heap) : Ret Tryd.prog 51 [.int .i64 i] H (fun v H' => H = H' ∧ v = strV (Lib.decDigits i)) := ret_same fun w _ => Tryd.internal_strconv_small i hi w
theorem law_numDigits {u : Nat} {H : Heap} (h1 : 1 ≤ u) (h2 : u < 18446744073709551616) (hL : Laid24 H) : Ret Tryd.prog 52 [.int .u64 u] H (fun v H' => H = H' ∧ v = .int .i64 (Lib.nDigits u)) := ret_same fun w hw => by
  subst hw
  exact Tryd.internal_strconv_numDigits u h1 h2 w (hL.tab.var (by kernel_rfl))
end Go.Proofs.YtbcflfkajkmkdaaDoor.X
