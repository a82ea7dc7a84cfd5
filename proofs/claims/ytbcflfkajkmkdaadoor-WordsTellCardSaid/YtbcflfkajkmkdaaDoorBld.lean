/- A strings.Builder that a call has made itself: how it is written and read. -/
import Derived.Test.YtbcflfkajkmkdaaDoorTypes
import Derived.Test.YtbcflfkajkmkdaaDoorShelf
import Derived.Test.YtbcflfkajkmkdaaDoorKey
import Derived.Test.YtbcflfkajkmkdaaDoorKw
import Derived.Lib.Builder
import Derived.Lib.UnsafeStr
import Derived.LaidEql
namespace Go.Proofs.YtbcflfkajkmkdaaDoor.X
open Go Go.Proofs Go.RowKit
set_option linter.unusedVariables false
set_option linter.unusedSimpArgs false
set_option maxRecDepth 10000

section ops
variable {P : Program} {n : Nat} {B : Exit → Act → World → Prop} {w0 : World} {md : Md} {ops : List Oper} {rest : OT} {k : K} {σ : Sl} {H : Heap} {i : Nat}
variable {d : Nat} {ty : TypeId} {pos : String} {after : Array Edge} {g : Option (Nat × Bool)}

theorem x_toUnsafe {s t e T sz bb b : Nat} {z : Value} {x : Operand} {cs : List Value} {fz : Nat × Nat} [hS : Ty P s (.pointer e)] [hT : Ty P t .unsafePointer] [hI : Inf P e sz bb z] (hz : Nat.blt 0 sz = true) (hg : gd ops σ g = some true) (hx : evo σ x = some (ptr b 0))
    (hB : ∀ H', hpm md i H H' → H'[b]? = some (.cells cs.toArray T fz)) (hl : Nat.blt 0 cs.length = true) (hd : Nat.blt d n = true) (hk : okq ops md i ⟨some d, .convert s t x, ty, pos, after, g⟩ H)
    (h : XW P n B w0 md ops rest k ((d, ptr b 0) :: σ) H) : XW P n B w0 md ops (.op i ⟨some d, .convert s t x, ty, pos, after, g⟩ rest) k σ H :=
  x_pure hk hg rfl hd (fun A w hM ha => by
    obtain ⟨inf, hi, h1, _⟩ := hI.get
    have hsh : w.shape? b = some (T, cs.length) := by simp [World.shape?, hB _ hM]
    rw [Nat.blt_eq] at hz hl
    have := Lib.run_to_unsafe w ⟨b, 0, none⟩ hS.und hT.und hi (by omega) hsh hl
    simp [execOp, ha.evo hx, this]) h
theorem x_fromUnsafe {s t u T sz bb b : Nat} {z : Value} {x : Operand} {cs : List Value} {fz : Nat × Nat} [hS : Ty P s .unsafePointer] [hT : Ty P t (.pointer u)] [hI : Inf P u sz bb z] (hg : gd ops σ g = some true) (hx : evo σ x = some (ptr b 0))
    (hB : ∀ H', hpm md i H H' → H'[b]? = some (.cells cs.toArray T fz)) (hl : liesAt P P.depth T (cs.length / P.cellsOf T) 0 u 1 = true) (hd : Nat.blt d n = true) (hk : okq ops md i ⟨some d, .convert s t x, ty, pos, after, g⟩ H)
    (h : XW P n B w0 md ops rest k ((d, ptr b 0) :: σ) H) : XW P n B w0 md ops (.op i ⟨some d, .convert s t x, ty, pos, after, g⟩ rest) k σ H :=
  x_pure hk hg rfl hd (fun A w hM ha => by
    obtain ⟨inf, hi, h1, _⟩ := hI.get
    have hsh : w.shape? b = some (T, cs.length) := by simp [World.shape?, hB _ hM]
    have := Lib.run_from_unsafe w ⟨b, 0, none⟩ hS.und hT.und hi hsh hl
    simp [execOp, ha.evo hx, this]) h
theorem x_noEscape {f : Nat} {fn : Func} {x : Operand} {v : Value} {ts : Array TypeId} (h1 : P.funcs[f]? = some fn) (h2 : (fn.name == "runtime.NumGoroutine") = false) (h3 : fn.body.isNone = true) (h4 : Extern.findNext fn = none) (h5 : Extern.find fn = some Extern.AbiNoEscape.same) (hg : gd ops σ g = some true) (hx : evo σ x = some v)
    (hd : Nat.blt d n = true) (hk : okq ops md i ⟨some d, .call ⟨.value (.func f), #[x], ts⟩, ty, pos, after, g⟩ H)
    (h : XW P n B w0 md ops rest k ((d, v) :: σ) H) : XW P n B w0 md ops (.op i ⟨some d, .call ⟨.value (.func f), #[x], ts⟩, ty, pos, after, g⟩ rest) k σ H :=
  x_pure hk hg rfl hd (fun A w hM ha => by
    have := run_callFunc_extern h1 h2 h3 h4 h5 #[v] w
    rw [Lib.run_noEscape] at this
    simp only [Result.andThen] at this
    have e0 : A.eval (.func f) = .func (.func f) #[] #[] := rfl
    simp [execOp, resolve, Deferred.ofValue, e0, invoke, ha.evo hx, this]) h
theorem x_pneqs {t t' e sz bb : Nat} {z : Value} {x y : Operand} {a : Addr} [hT : Ty P t (.pointer e)] [hI : Inf P e sz bb z] (hg : gd ops σ g = some true) (hx : evo σ x = some (.pointer (some a))) (hy : evo σ y = some (.pointer (some a))) (hd : Nat.blt d n = true) (hk : okq ops md i ⟨some d, .binOp .neq t x y t', ty, pos, after, g⟩ H)
    (h : XW P n B w0 md ops rest k ((d, .bool false) :: σ) H) : XW P n B w0 md ops (.op i ⟨some d, .binOp .neq t x y t', ty, pos, after, g⟩ rest) k σ H :=
  x_pure hk hg rfl hd (fun A w hM ha => by
    obtain ⟨inf, hi, h1, _⟩ := hI.get
    have h9 : ∀ d : Nat, (Op.equalIn (d + 1) t (.pointer (some a)) (.pointer (some a))).run P w = .ok true w := fun d => by
      simp [Op.equalIn, run_und hT, run_size hI, run_sameAddr_same]
    simp [execOp, ha.evo hx, ha.evo hy, eqGuard, binOp, Op.equal, Op.maxDepth, h9 9999]) h
/-- a store, told whole -/
theorem x_storeR {t b o bb : Nat} {z : Value} {x y : Operand} {v : Value} {l : List Value} [hI : Inf P t 1 bb z] (hg : gd ops σ g = some true) (hx : evo σ x = some (ptr b o)) (hy : evo σ y = some v) (hO : oneC v = true) (hB : Blk H b l) (ho : o < l.length) (he : okE ops md i ⟨none, .store t x y, ty, pos, after, g⟩)
    (h : okm ops md i H (setB H b (l.set o v)) ∧ XW P n B w0 md ops rest k σ (setB H b (l.set o v))) : XW P n B w0 md ops (.op i ⟨none, .store t x y, ty, pos, after, g⟩ rest) k σ H := by
  refine x_eff (E := fun _ H' => H' = setB H b (l.set o v)) he hg rfl (fun a w ha hw N Q hN => ?_) (fun _ H' hH' => by subst hH'; exact h)
  have hB' : Blk w.heap b l := by rw [hw.heap]; exact hB
  obtain ⟨w', hrun, hwd⟩ := run_storeCells (P := P) (w0 := w0) [v] w b o 0 l ⟨rfl, hw.os, hw.tape, hw.output⟩ hB' (by simp; omega) (by simpa using hO)
  rw [Nat.add_zero, putL_one ho] at hwd
  have e1 : (execOp a.eval ⟨none, .store t x y, ty, pos, after, g⟩).run P w = .ok .skip w' := by
    simp [execOp, Instr.storeAt, Instr.sureAddr, storeVar, ha.evo hx, ha.evo hy, oneC_cells hO, run_size hI, hrun]
  rw [e1, Oper.upon_skip]
  refine hN undef w' ⟨rfl, hwd.os, hwd.tape, hwd.output⟩ ?_
  rw [hwd.heap, hw.heap]
/-- memory with bytes behind a row's own -/
structure AppS (H H' : Heap) (v v' : Value) (xs ys : List Value) (m : Nat) : Prop where
  row : ∃ w : World, w.heap = H' ∧ w.ownsRow 0 5 1 v' (m + ys.length) (xs ++ ys)
  size : H.size ≤ H'.size
  blk : ∀ k, k < H.size → some k ≠ v.ownBlock → H'[k]? = H[k]?
  place : v'.ownBlock = v.ownBlock ∨ ∀ g, v'.ownBlock = some g → H.size ≤ g
/-- where the row lies -/
theorem append_place {P : Program} {w w' : World} {t t2 ty m : Nat} {inf : TypeInfo} {v v' : Value} {xs : List Value} {s : ByteArray} (ht : P.underlying t = some (.slice 5)) (ht2 : P.underlying t2 = some .string) (hi : P.info? 5 = some inf) (h1 : inf.size = 1) (h2 : inf.bytes = 1) (h3 : inf.zero = some (.int .u8 0))
    (ho : w.ownsRow 0 5 1 v m xs) (hsz : m + s.size ≤ 140737488355328) (hr : (Builtin.append_ #[t, t2] ty #[v, .string s]).run P w = .ok v' w') : v'.ownBlock = v.ownBlock ∨ ∀ g, v'.ownBlock = some g → w.heap.size ≤ g := by
  obtain ⟨hx, hv⟩ := ho
  rcases hv with ⟨rfl, rfl⟩ | ⟨g, cap, cur, rfl, hb, hg, hn, hc, hcs, htk⟩
  · right
    obtain ⟨v2, w2, hr2, ho2, _⟩ := Lib.run_append_own_string (P := P) w w.heap.size t t2 ty 5 inf ht ht2 hi h3 h1 h2 (.slice none 0 0) 0 xs ⟨hx, .inl ⟨rfl, rfl⟩⟩ s (by unfold maxLen; omega) hsz (Nat.le_refl _)
    rw [hr] at hr2
    cases hr2
    intro g hg
    obtain ⟨_, ho2⟩ := ho2
    rcases ho2 with ⟨rfl, _⟩ | ⟨g', cap, cur, rfl, hb, _⟩
    · cases hg
    · cases hg
      exact hb
  · by_cases hf : m + s.size ≤ cap
    · left
      have := Lib.run_append_room_string (P := P) w t t2 ty 5 inf ht ht2 hi h1 g m cap cur hg s hf (by omega)
      rw [hr] at this
      cases this
      rfl
    · right
      have hcap : cur.toList.length = cap := by rw [Array.length_toList]; omega
      have := Lib.run_append_grow_string (P := P) w t t2 ty 5 inf (.int .u8 0) ht ht2 hi h3 ⟨g, 0, none⟩ m cap xs (by rw [hx, h1]) (fun j u hj => by
        have hj2 : j < xs.length := (List.getElem?_eq_some_iff.1 hj).1
        rw [addr_add, cell_heap, cel_of_blk hg, Nat.zero_add]
        rw [← htk] at hj
        rw [List.getElem?_take, if_pos (by omega)] at hj
        rw [← Array.getElem?_toList]
        exact hj) s (by omega) (by omega) (by
          have := nextcap_le (need := m + s.size) (cap := cap) (by omega)
          rw [h2]
          omega)
      rw [hr] at this
      cases this
      intro g' hg'
      cases hg'
      exact Nat.le_refl _
theorem x_appendS {dst : Option Nat} {t t2 m : Nat} {x y : Operand} {v : Value} {s : ByteArray} {xs : List Value} [hT : Ty P t (.slice 5)] [hT2 : Ty P t2 .string] [hI : Inf P 5 1 1 (.int .u8 0)]
    (hg : gd ops σ g = some true) (hx : evo σ x = some v) (hy : evo σ y = some (.string s)) (hv : ∃ w : World, w.heap = H ∧ w.ownsRow 0 5 1 v m xs) (hsz : m + s.size ≤ 140737488355328)
    (hd : dstOk dst n = true) (he : okE ops md i ⟨dst, .call ⟨.builtin .append, #[x, y], #[t, t2]⟩, ty, pos, after, g⟩)
    (h : ∀ v' H', AppS H H' v v' xs (Lib.strCells s) m → okm ops md i H H' ∧ XW P n B w0 md ops rest k (putS dst v' σ) H') : XW P n B w0 md ops (.op i ⟨dst, .call ⟨.builtin .append, #[x, y], #[t, t2]⟩, ty, pos, after, g⟩ rest) k σ H := by
  refine x_eff (E := fun v' H' => AppS H H' v v' xs (Lib.strCells s) m) he hg hd (fun a w ha hw N Q hN => ?_) h
  obtain ⟨w1, hw1, ho⟩ := hv
  have ho' : w.ownsRow 0 5 1 v m xs := by
    unfold World.ownsRow at ho ⊢
    rw [hw.heap, ← hw1]
    exact ho
  obtain ⟨inf, hi, h1, h2, h3⟩ := hI.get
  obtain ⟨v', w', hr, hr2, hr3, _⟩ := Lib.run_append_own_string (P := P) w 0 t t2 ty 5 inf hT.und hT2.und hi h3 h1 h2 v m xs ho' s (by unfold maxLen; omega) hsz (Nat.zero_le _)
  have e1 : (execOp a.eval ⟨dst, .call ⟨.builtin .append, #[x, y], #[t, t2]⟩, ty, pos, after, g⟩).run P w = .ok (.value v') w' := by
    simp [execOp, resolve, invoke, builtin, ha.evo hx, ha.evo hy, hr]
  rw [e1, Oper.upon_value]
  refine hN v' w' ⟨rfl, hr3.os.trans hw.os, hr3.tape.trans hw.tape, hr3.output.trans hw.output⟩ ⟨⟨w', rfl, by rw [Lib.strCells_length]; exact hr2⟩, by rw [← hw.heap]; exact hr3.size, fun k hk hn => by rw [← hw.heap] at hk ⊢; exact hr3.block k hk hn, by rw [← hw.heap]; exact append_place hT.und hT2.und hi h1 h2 h3 ho' hsz hr⟩
/-- strings put together -/
theorem x_concat {t t' : Nat} {x y : Operand} {a b : ByteArray} (hs : a.size + b.size ≤ 9223372036854775807) (hg : gd ops σ g = some true) (hx : evo σ x = some (.string a)) (hy : evo σ y = some (.string b)) (hd : Nat.blt d n = true) (hk : okq ops md i ⟨some d, .binOp .add t x y t', ty, pos, after, g⟩ H)
    (h : XW P n B w0 md ops rest k ((d, .string (a ++ b)) :: σ) H) : XW P n B w0 md ops (.op i ⟨some d, .binOp .add t x y t', ty, pos, after, g⟩ rest) k σ H :=
  x_pure hk hg rfl hd (fun A w hM ha => by
    have hn : ¬ (((a.size + b.size : Nat) : Int) > IntKind.i64.max) := by
      have : IntKind.i64.max = 9223372036854775807 := rfl
      rw [this]
      omega
    simp only [execOp, ha.evo hx, ha.evo hy, eqGuard, binOp, Op.stringOp]
    rw [if_neg hn]
    simp) h
end ops

instance tyUns : Ty Tryd.prog 81 .unsafePointer := ⟨by kernel_rfl⟩
/-- a builder in block b: its slice, its bytes -/
structure Bd (H : Heap) (b : Nat) (v : Value) (l : Bytes) : Prop where
  blk : ∃ p, (p = .pointer none ∨ p = ptr b 0) ∧ H[b]? = some (.cells #[p, v] 49 (0, 0))
  row : ∃ w : World, w.heap = H ∧ w.ownsRow 0 5 1 v l.length (Lib.byteCells l)
  off : v.ownBlock ≠ some b
theorem Bd.blk2 {H : Heap} {b : Nat} {v : Value} {l : Bytes} (h : Bd H b v l) : ∃ p, Blk H b [p, v] := by
  obtain ⟨p, _, h1⟩ := h.blk
  exact ⟨p, _, _, h1, fun o _ => by simp⟩
theorem own_heap {w w' : World} {base e s : Nat} {v : Value} {m : Nat} {xs : List Value} (h : w.ownsRow base e s v m xs) (he : ∀ g, v.ownBlock = some g → w'.heap[g]? = w.heap[g]?) : w'.ownsRow base e s v m xs := by
  obtain ⟨h1, h2⟩ := h
  refine ⟨h1, h2.imp id ?_⟩
  rintro ⟨g, cap, cur, rfl, h3, h4, h5⟩
  exact ⟨g, cap, cur, rfl, h3, by rw [he g rfl]; exact h4, h5⟩
theorem Bd.keep {S : Nat → Prop} {H H' : Heap} {b : Nat} {v : Value} {l : Bytes} (h : Bd H b v l) (k : Keep S H H') (hb : ¬ S b) (hv : ∀ g, v.ownBlock = some g → ¬ S g) : Bd H' b v l := by
  obtain ⟨⟨p, hp, h1⟩, ⟨w, hw, h2⟩, h3⟩ := h
  refine ⟨⟨p, hp, k.get h1 hb⟩, ⟨{ w with heap := H' }, rfl, own_heap h2 fun g hg => ?_⟩, h3⟩
  subst hw
  refine k.blk g ?_ (hv g hg)
  obtain ⟨_, h2⟩ := h2
  rcases h2 with ⟨rfl, _⟩ | ⟨g', cap, cur, rfl, _, h4, _⟩
  · cases hg
  · cases hg
    exact lt_of_blk h4
theorem law_copyCheck {H : Heap} {b : Nat} {p v : Value} (hp : p = .pointer none ∨ p = ptr b 0) (h : H[b]? = some (.cells #[p, v] 49 (0, 0))) : Ret Tryd.prog 39 [ptr b 0] H (fun r H' => r = .tuple #[] ∧ Keep (· = b) H H' ∧ H'[b]? = some (.cells #[ptr b 0, v] 49 (0, 0))) := by
  have hB : Blk H b [p, v] := ⟨_, _, h, fun o _ => by simp⟩
  have q0 : cel H b 0 = some p := by rw [hB.cel]; rfl
  refine ret_of Tryd.func39 rfl rfl rfl rfl ?_
  intro w0
  refine zrun ?_ ?_
  refine x_load rfl rfl (hpmt (q0)) rfl trivial ?_
  rcases hp with rfl | rfl
  · refine zrun ?_ ?_
    refine x_toUnsafe (cs := [.pointer none, v]) rfl rfl rfl (hpmt h) rfl rfl trivial ?_
    refine zrun ?_ ?_
    refine x_noEscape (fn := Tryd.f49) (by kernel_rfl) (by kernel_rfl) (by kernel_rfl) (by kernel_rfl) (by kernel_rfl) rfl rfl rfl trivial ?_
    refine zrun ?_ ?_
    refine x_fromUnsafe (cs := [.pointer none, v]) rfl rfl (hpmt h) (by kernel_rfl) rfl trivial ?_
    refine zrun ?_ ?_
    refine x_storeR rfl rfl rfl rfl hB (by simp) trivial ?_
    refine ⟨trivial, ?_⟩
    refine zrun ?_ ?_
    refine nw_end rfl ⟨rfl, setB_keep _ _ _, ?_⟩
    simp [setB, Array.getElem?_modify, h]
  · refine zrun ?_ ?_
    refine x_load rfl rfl (hpmt (q0)) rfl trivial ?_
    refine zrun ?_ ?_
    refine x_pneqs rfl rfl rfl rfl trivial ?_
    refine zrun ?_ ?_
    exact nw_end rfl ⟨rfl, Keep.refl _ _, h⟩
theorem law_WriteString {H : Heap} {b : Nat} {v : Value} {l : Bytes} {s : ByteArray} (h : Bd H b v l) (hsz : l.length + s.size ≤ 140737488355328) : Ret Tryd.prog 18 [ptr b 0, .string s] H (fun r H' => r = .tuple #[.int .i64 s.size, .nilIface] ∧
    ∃ v', Bd H' b v' (l ++ s.data.toList) ∧ Keep (fun z => z = b ∨ v.ownBlock = some z) H H' ∧ (v'.ownBlock = v.ownBlock ∨ ∀ g, v'.ownBlock = some g → H.size ≤ g)) := by
  obtain ⟨⟨p, hp, h1⟩, ⟨w, hw, h2⟩, h3⟩ := h
  refine ret_of Tryd.func18 rfl rfl rfl rfl ?_
  intro w0
  refine zrun ?_ ?_
  refine x_call rfl rfl rfl trivial (law_copyCheck hp h1) ?_
  rintro _ H1 ⟨rfl, hk1, hb1⟩
  refine ⟨trivial, ?_⟩
  have hB1 : Blk H1 b [ptr b 0, v] := ⟨_, _, hb1, fun o _ => by simp⟩
  have q1 : cel H1 b 1 = some v := by rw [hB1.cel]; rfl
  have ho1 : ∃ w : World, w.heap = H1 ∧ w.ownsRow 0 5 1 v l.length (Lib.byteCells l) := ⟨{ w with heap := H1 }, rfl, own_heap h2 fun g hg => by
    subst hw
    have hgb : g ≠ b := fun e => by subst e; exact h3 hg
    refine hk1.blk g ?_ hgb
    obtain ⟨_, h2⟩ := h2
    rcases h2 with ⟨rfl, _⟩ | ⟨g', cap, cur, rfl, _, h4, _⟩
    · cases hg
    · cases hg
      exact lt_of_blk h4⟩
  refine zrun ?_ ?_
  refine x_load rfl rfl (hpmt (q1)) rfl trivial ?_
  refine zrun ?_ ?_
  refine x_appendS rfl rfl rfl ho1 hsz rfl trivial ?_
  intro v' H2 hap
  refine ⟨trivial, ?_⟩
  have hk2 : Keep (fun z => v.ownBlock = some z) H1 H2 := ⟨hap.size, fun k hk hn => hap.blk k hk (fun e => hn e.symm)⟩
  have hb2 := hk2.get hb1 (fun e => h3 e)
  have hB2 : Blk H2 b [ptr b 0, v] := ⟨_, _, hb2, fun o _ => by simp⟩
  obtain ⟨w2, hw2, hr2⟩ := hap.row
  have hs1 := hk1.size
  have hbl : b < H.size := lt_of_blk h1
  have hpl : v'.ownBlock = v.ownBlock ∨ ∀ g, v'.ownBlock = some g → H.size ≤ g := hap.place.imp id fun h g hg => by have := h g hg; omega
  have hvb : v'.ownBlock ≠ some b := by
    rcases hpl with e | e
    · rw [e]; exact h3
    · intro e2
      have := e b e2
      omega
  have hO : oneC v' = true := by
    obtain ⟨_, hv⟩ := hr2
    rcases hv with ⟨rfl, _⟩ | ⟨_, _, _, rfl, _⟩ <;> rfl
  refine zrun ?_ ?_
  refine x_storeR rfl rfl rfl hO hB2 (by simp) trivial ?_
  refine ⟨trivial, ?_⟩
  have hk3 := setB_keep H2 b ([ptr b 0, v'].set 1 v')
  refine zrun ?_ ?_
  refine x_len_str rfl rfl rfl trivial ?_
  refine zrun ?_ ?_
  refine cw_ret2 rfl rfl rfl ⟨rfl, v', ⟨⟨ptr b 0, .inr rfl, ?_⟩, ⟨{ w2 with heap := _ }, rfl, ?_⟩, hvb⟩, ?_, hpl⟩
  · simp [setB, Array.getElem?_modify, hb2]
  · have e : Lib.byteCells (l ++ s.data.toList) = Lib.byteCells l ++ Lib.strCells s := by rw [Lib.byteCells_append, Lib.strCells_eq]
    have e2 : (l ++ s.data.toList).length = l.length + (Lib.strCells s).length := by simp [Lib.strCells]
    rw [e, e2]
    subst hw2
    refine own_heap hr2 fun g hg => hk3.blk g ?_ (fun e => by subst e; exact hvb hg)
    obtain ⟨_, hv⟩ := hr2
    rcases hv with ⟨rfl, _⟩ | ⟨g', cap, cur, rfl, _, h4, _⟩
    · cases hg
    · cases hg
      exact lt_of_blk h4
  · have k12 := (hk1.trans hk2).trans hk3
    exact k12.mono fun z hz hq => by
      rcases hq with (e | e) | e
      · exact .inl e
      · exact .inr e.1
      · exact .inl e.1
end Go.Proofs.YtbcflfkajkmkdaaDoor.X
