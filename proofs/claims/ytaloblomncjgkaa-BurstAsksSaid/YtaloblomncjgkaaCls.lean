/- Cells: what they are, and those of a burst trie. -/
import Derived.Test.YtaloblomncjgkaaBtr3
namespace Go.Proofs.Ytaloblomncjgkaa.X
open Go Go.Proofs
set_option linter.unusedVariables false
set_option linter.unusedSimpArgs false
set_option maxRecDepth 10000
set_option maxHeartbeats 2000000

structure Cel where
  kind : Int := 0
  at_ : Int := 0
  count : Int := 0
  kids : Int := 0
  byte : UInt8 := 0
  full : Bool := false
  val : Int := 0
  key : Bytes := []
  pairs : List Pr := []
/-- a cell's nine words -/
def encC (x : Cel × Value × Value) : List Value := [.int .i64 x.1.kind, .int .i64 x.1.at_, .int .i64 x.1.count, .int .i64 x.1.kids, kb x.1.byte, .bool x.1.full, .int .u64 x.1.val, x.2.1, x.2.2]
theorem encC_len (x : Cel × Value × Value) : (encC x).length = 9 := rfl
def zC : List Value := [.int .i64 0, .int .i64 0, .int .i64 0, .int .i64 0, .int .u8 0, .bool false, .int .u64 0, .slice none 0 0, .slice none 0 0]
/-- a key in a block of W's -/
def KSt (W : Nat → Prop) (H : Heap) (k : Value) (c : Bytes) : Prop := Bs H k c ∧ (c ≠ [] → W (sb k))
/-- a cell whose key and pairs stand in blocks of W's -/
def CelR (W : Nat → Prop) (H : Heap) (x : Cel × Value × Value) (c : Cel) : Prop := x.1 = c ∧ KSt W H x.2.1 c.key ∧ PsK (KSt W H) H x.2.2 c.pairs ∧ (c.pairs ≠ [] → W (sb x.2.2))
section celr
variable {W W' : Nat → Prop} {H H' : Heap} {x : Cel × Value × Value} {c : Cel}
theorem KSt.step {S : Nat → Prop} {k : Value} {c : Bytes} (h : KSt W H k c) (hk : Keep S H H') (hS : ∀ z, W z → ¬ S z) (hm : ∀ z, W z → W' z) : KSt W' H' k c := ⟨h.1.keep hk (fun hne => hS _ (h.2 hne)), fun hne => hm _ (h.2 hne)⟩
theorem CelR.step {S : Nat → Prop} (h : CelR W H x c) (hk : Keep S H H') (hS : ∀ z, W z → ¬ S z) (hm : ∀ z, W z → W' z) : CelR W' H' x c :=
  ⟨h.1, h.2.1.step hk hS hm, h.2.2.1.stepS (fun _ _ hb => hb.step hk hS hm) hk (fun hne => hS _ (h.2.2.2 hne)), fun hne => hm _ (h.2.2.2 hne)⟩
theorem CelR.oneC (h : CelR W H x c) : ∀ v ∈ encC x, oneC v = true := fun v hv => by
  have h1 := isSl_oneC h.2.1.1.sl
  have h2 := isSl_oneC h.2.2.1.sl
  simp only [encC, List.mem_cons, List.not_mem_nil, or_false] at hv
  rcases hv with rfl | rfl | rfl | rfl | rfl | rfl | rfl | rfl | rfl <;> first | rfl | assumption
end celr
/-- a row of cells of a call's own, their keys and pairs in blocks of W's, all made since B -/
structure Cls (B : Nat) (H : Heap) (W : Nat → Prop) (v : Value) (l : List Cel) : Prop where
  row : Rw encC 9 (CelR W H) H v l
  win : ∀ x, W x → B ≤ x ∧ x < H.size
  fresh : 0 < sc v → B ≤ sb v ∧ ¬ W (sb v)
theorem Cls.keepN {B : Nat} {H H' : Heap} {W : Nat → Prop} {v : Value} {l : List Cel} (h : Cls B H W v l) (k : Keep Non H H') : Cls B H' W v l :=
  ⟨(h.row.keepN k).mono fun _ _ hc => hc.step k (fun _ _ h => h) (fun _ h => h), fun x hx => by have := h.win x hx; have := k.size; omega, h.fresh⟩
/-- one row behind another -/
theorem Cls.app {B : Nat} {H H1 H2 : Heap} {W W1 : Nat → Prop} {v v' : Value} {l l1 : List Cel} {q q1 : List (Cel × Value × Value)} (h : Cls B H W v l) (hq : Al (CelR W H) q l) (hB : B ≤ H.size) (hk : Keep Non H H1) (hq1 : Al (CelR W1 H1) q1 l1) (hw1 : ∀ x, W1 x → H.size ≤ x ∧ x < H1.size)
    (hap : App 9 H1 H2 v v' l.length (rws encC q) (rws encC q1) l1.length) (hlt : 0 < sc v → sb v < H.size) (hpos : l1 ≠ []) : Cls B H2 (fun x => W x ∨ W1 x) v' (l ++ l1) := by
  have hs := hk.size
  have hs2 := hap.keep.size
  have hpl := List.length_pos_iff.2 hpos
  have hoff : ∀ z, (W z ∨ W1 z) → ¬ (z = sb v ∧ l.length + l1.length ≤ sc v ∧ 0 < l1.length) := fun z hz e => by
    have hc : 0 < sc v := by omega
    rcases hz with hz | hz
    · exact (h.fresh hc).2 (e.1 ▸ hz)
    · have := hw1 z hz; have := hlt hc; omega
  refine ⟨⟨q ++ q1, ?_, ?_⟩, fun x hx => ?_, fun hc => ?_⟩
  · refine ((hq.mono fun _ _ hc => ?_).append (hq1.mono fun _ _ hc => ?_))
    · exact (hc.step hk (fun _ _ h => h) (fun _ h => h) : CelR W H1 _ _).step hap.keep (fun z hz => hoff z (.inl hz)) (fun _ h => .inl h)
    · exact hc.step hap.keep (fun z hz => hoff z (.inr hz)) (fun _ h => .inr h)
  · rw [rws_append, List.length_append]
    exact hap.own
  · rcases hx with hx | hx
    · have := h.win x hx; omega
    · have := hw1 x hx; omega
  · rcases hap.place with ⟨e1, _, e3, e4, _⟩ | ⟨e1, _⟩
    · have h0 : 0 < sc v := by omega
      have h1 := h.fresh h0
      rw [e1]
      refine ⟨h1.1, fun hx => ?_⟩
      rcases hx with hx | hx
      · exact h1.2 hx
      · have := hw1 _ hx; have := hlt h0; omega
    · rw [e1]
      refine ⟨by omega, fun hx => ?_⟩
      rcases hx with hx | hx
      · have := h.win _ hx; omega
      · have := hw1 _ hx; omega
namespace BT
def kidsN (kids : UInt8 → BT) : Nat := sumB fun b => match kids b with | nil => 0 | _ => 1
def cells : BT → Bytes → List Cel
  | nil, _ => []
  | shelf ps, w => [{ kind := 11, count := ps.length, kids := ps.length, key := w, pairs := ps }]
  | node own kids, w => { kind := 10, count := (node own kids).count, kids := kidsN kids, full := own.isSome, val := own.getD 0, key := w } :: allB.flatMap fun b => (kids b).cells (w ++ [b])
theorem cells_len : ∀ (t : BT) (w : Bytes), (t.cells w).length = t.size := by
  intro t
  induction t with
  | nil => intro w; rfl
  | shelf ps => intro w; rfl
  | node own kids ih =>
    intro w
    show (_ :: allB.flatMap fun b => (kids b).cells (w ++ [b])).length = 1 + sumB fun b => (kids b).size
    rw [List.length_cons, List.length_flatMap]
    have : (allB.map fun b => ((kids b).cells (w ++ [b])).length).sum = sumB fun b => (kids b).size := by
      unfold sumB
      congr 1
      exact List.map_congr_left fun b _ => ih b _
    omega
end BT

theorem cls_one {ck : Value} {n : Nat} {a b c : Int} {e : Bool} {f : Int} (h : IsSl ck n) : ∀ v ∈ [Value.int .i64 a, .int .i64 0, .int .i64 b, .int .i64 c, .int .u8 0, .bool e, .int .u64 f, ck, .slice none 0 0], oneC v = true := fun v hv => by
  have h1 := isSl_oneC h
  simp only [List.mem_cons, List.not_mem_nil, or_false] at hv
  rcases hv with rfl | rfl | rfl | rfl | rfl | rfl | rfl | rfl | rfl <;> first | rfl | assumption
end Go.Proofs.Ytaloblomncjgkaa.X
