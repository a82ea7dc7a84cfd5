/- The package model: the longest beginning, by a range over a function. -/
import Derived.Test.YtaloblomncjgkaaMod2
import Derived.Test.YtaloblomncjgkaaXrf
namespace Go.Proofs.Ytaloblomncjgkaa.X
open Go Go.Proofs
set_option linter.unusedVariables false
set_option linter.unusedSimpArgs false
set_option maxRecDepth 10000
set_option maxHeartbeats 2000000

theorem hpmf {r : Option Nat} {i : Nat} {H : Heap} {p : Heap → Prop} (h : p H) : ∀ H', hpm (.fen r) i H H' → p H' := fun H' e => by
  have e : H' = H := e
  rw [e]; exact h
theorem cw_say {P : Program} {n : Nat} {B : Exit → Act → World → Prop} {w0 : World} {k : K} {σ : Sl} {H : Heap} {c : Code} (s : Nat) {v : Value} (u : Value) (hs : look σ s = some v) (e : v = u) (h : CW P n B w0 c k ((s, u) :: σ) H) : CW P n B w0 c k σ H :=
  by unfold CW at h ⊢; exact fun a w ha hw => h a w (sat_as s hs e a ha) hw
theorem nw_done {P : Program} {n : Nat} {Q : Exit → Act → World → Prop} {w0 : World} {σ : Sl} {H : Heap} (h : ∀ a w, Sat n σ a → Wd w0 H w → Q .normal a w) : NW P n Q w0 .done σ H := by
  unfold NW
  exact h
/-- a region behind such a loop -/
theorem wp_mark {P : Program} {n : Nat} {N : Act → World → Prop} {Q : Exit → Act → World → Prop} {w0 : World} {σ : Sl} {H : Heap} {id : Nat} {l : List Oper} {ds : List Deferred} (h : XW P n (Exit.then N (fun _ _ _ => False)) w0 (.mrk ds) l (OT.ofList l) .done σ H)
    (hq : ∀ a w, N a.bare w → a.defers = ds → Q .normal a w) {a : Act} {w : World} (ha : Sat n σ a.bare) (hd : a.defers = ds) (hw : Wd w0 H w) : (Code.region id l.toArray false).wp P Q a w := by
  unfold XW at h
  have h1 := h a w ha hd hw
  rw [OT.toList_ofList] at h1
  refine wp_mono (wp_region_lit h1) (fun e a' w' q => ?_)
  cases e with
  | normal => exact hq _ _ q.1 q.2
  | _ => exact q.elim
theorem leaves_mark {P : Program} {fn : Func} {tmps : Array Value} {R : Ending → World → Prop} {D : Nat} {w : World} (hD : w.heap[D]? = some (.deferred (some []))) {v : Value} (hv : (results fn tmps).run P (w.putObj D (.deferred none)) = .ok v (w.putObj D (.deferred none)))
    (hR : R (.returned v) (w.putObj D (.deferred none))) : LeavesInM (fenR none) 0 P fn tmps R (mark D) .returning w := ⟨by simp, .inl ⟨D, _, rfl, run_takeDeferred hD, v, hv, hR⟩⟩

theorem lng_leave {P : Program} {fn : Func} {t u T T2 bb : Nat} {z : Value} {fs : List (Nat × Nat × Nat)} [hT : Stt P T fs] [hI : Inf P T 2 bb z] [hT2 : One P T2] {tmps : Array Value} {b1 b2 D : Nat} {w0 w : World} {c : Value} {x : Int} {ok : Bool} {Φ : Value → Heap → Prop} (hr : fn.results = #[.cell t T, .cell u T2]) (h4 : tmps[t]? = some (ptr b1 0)) (h5 : tmps[u]? = some (ptr b2 0)) (hw : Wd w0 w.heap w)
    (hD : w.heap[D]? = some (.deferred (some []))) (hc : Cels w.heap b1 0 [c, .int .u64 x]) (hok : cel w.heap b2 0 = some (.bool ok)) (hΦ : ∀ H', Keep (· = D) w.heap H' → Φ (.tuple #[.agg [c, .int .u64 x].toArray, .bool ok]) H') : LeavesInM (fenR none) 0 P fn tmps (RetB w0 Φ) (mark D) .returning w := by
  have hk := putObj_keep w D (.deferred none)
  have hn1 : ¬ b1 = D := fun e => by
    have := hc 0 (by simp)
    rw [e] at this
    unfold cel at this
    rw [hD] at this
    cases this
  have hn2 : ¬ b2 = D := fun e => by
    have := hok
    rw [e] at this
    unfold cel at this
    rw [hD] at this
    cases this
  have hc' := hc.keep hk (fun _ => hn1)
  have hok' := hk.cel hok hn2
  have g1 := run_loadVar_stt (P := P) (w := w.putObj D (.deferred none)) hT hI rfl hc'
  have g2 : (loadVar T2 ⟨b2, 0, none⟩).run P (w.putObj D (.deferred none)) = .ok (.bool ok) (w.putObj D (.deferred none)) := by
    simp [loadVar, run_isAgg_one hT2, cell_heap, hok']
  refine leaves_mark hD (v := .tuple #[.agg [c, .int .u64 x].toArray, .bool ok]) ?_ ⟨_, rfl, putObj_wd hw D _, hΦ _ hk⟩
  simp [results, hr, h4, h5, asAddr, g1, g2]
theorem slices_Backward {v : Value} {n : Nat} {H : Heap} (hv : IsSl v n) : Ret Try.prog 86 [v] H (fun r H' => Keep Non H H' ∧ H'.size = H.size + 1 ∧ r = .func (.func 105) #[] #[ptr H.size 0] ∧ cel H' H.size 0 = some v) := by
  refine ret_of Try.func86 rfl rfl rfl rfl ?_
  intro w0
  repeat (first | refine zb ?_ | refine zx ?_ | refine zy ?_ | refine zz ?_ | refine zzd ?_)
  refine x_box1 rfl rfl (isSl_oneC hv) rfl trivial ?_
  intro H1 hn1
  refine ⟨trivial, ?_⟩
  repeat (first | refine zb ?_ | refine zx ?_ | refine zy ?_ | refine zz ?_ | refine zzd ?_)
  refine x_makeFunc (fv := []) (cv := [ptr H.size 0]) rfl rfl rfl rfl trivial ?_
  repeat (first | refine zb ?_ | refine zx ?_ | refine zy ?_ | refine zz ?_ | refine zzd ?_)
  exact cw_ret1 rfl rfl ⟨hn1.keep, hn1.size, rfl, by rw [hn1.blk.cel]; rfl⟩

theorem slices_Backward1 {lp bx : Nat} {v : Value} {l : List Pr} {H : Heap} (J : Nat → Heap → Prop) (Jx : Heap → Prop) (sl : IsSl v l.length) (hll : l.length ≤ 100000) (hrow : ∀ j H, J j H → cel H bx 0 = some v ∧ Ps H v l)
    (hy : ∀ j i H p kk, J j H → i + j + 1 = l.length → l[i]? = some p → Bs H kk p.1 → Yld Try.prog lp [.int .i64 i, .agg [kk, .int .u64 p.2].toArray] H (fun r H' => (r = .bool true ∧ J (j + 1) H') ∨ (r = .bool false ∧ Jx H'))) (h0 : J 0 H) :
    Ret Try.prog 105 [.func (.yield lp) #[] #[], ptr bx 0] H (fun _ H' => J l.length H' ∨ Jx H') := by
  have c0 := (hrow _ _ h0).1
  refine ret_of Try.func105 rfl rfl rfl rfl ?_
  intro w0
  repeat (first | refine za ?_ | refine zb ?_ | refine zd ?_ | refine zj ?_ | refine zl ?_ | refine zo ?_ | refine zv ?_ | refine zw ?_ | refine zx ?_ | refine zy ?_ | refine zz ?_ | refine zza ?_ | refine zzb ?_ | refine zzc ?_ | refine zzd ?_ | refine zze ?_ | refine zzf ?_ | refine zzg ?_)
  refine x_load rfl rfl (hpmt (c0)) rfl trivial ?_
  repeat (first | refine za ?_ | refine zb ?_ | refine zd ?_ | refine zj ?_ | refine zl ?_ | refine zo ?_ | refine zv ?_ | refine zw ?_ | refine zx ?_ | refine zy ?_ | refine zz ?_ | refine zza ?_ | refine zzb ?_ | refine zzc ?_ | refine zzd ?_ | refine zze ?_ | refine zzf ?_ | refine zzg ?_)
  refine cw_loop (fun s : Nat × Int => [(0, .func (.yield lp) #[] #[]), (1, ptr bx 0), (3, .int .i64 s.2)]) (fun s H' => s.1 ≤ l.length ∧ J s.1 H' ∧ s.2 = (l.length : Int) - 1 - s.1) (fun s => l.length - s.1) (0, _) (by repeat (first | exact True.intro | refine ⟨rfl, ?_⟩)) ⟨Nat.zero_le _, h0, by simp⟩ ?_
  rintro ⟨j, z⟩ H1 ⟨hj, hJ, hz⟩
  dsimp only at hj hJ hz ⊢
  obtain ⟨c1, hP⟩ := hrow _ _ hJ
  repeat (first | refine za ?_ | refine zb ?_ | refine zd ?_ | refine zj ?_ | refine zl ?_ | refine zo ?_ | refine zv ?_ | refine zw ?_ | refine zx ?_ | refine zy ?_ | refine zz ?_ | refine zza ?_ | refine zzb ?_ | refine zzc ?_ | refine zzd ?_ | refine zze ?_ | refine zzf ?_ | refine zzg ?_)
  refine cw_cond rfl (fun h1 => ?_) (fun h1 => ?_) <;> (try simp at h1)
  · obtain ⟨i, hi⟩ : ∃ i, i + j + 1 = l.length := ⟨l.length - 1 - j, by omega⟩
    obtain ⟨p, hp⟩ : ∃ p, l[i]? = some p := ⟨_, List.getElem?_eq_getElem (by omega)⟩
    obtain ⟨kk, a1, a2, a3⟩ := hP.at_ i p hp
    have e3 : z = (i : Int) := by omega
    subst e3
    repeat (first | refine za ?_ | refine zb ?_ | refine zd ?_ | refine zj ?_ | refine zl ?_ | refine zo ?_ | refine zv ?_ | refine zw ?_ | refine zx ?_ | refine zy ?_ | refine zz ?_ | refine zza ?_ | refine zzb ?_ | refine zzc ?_ | refine zze ?_ | refine zzf ?_ | refine zzg ?_)
    refine cw_region_fen ?_
    repeat (first | refine za ?_ | refine zb ?_ | refine zd ?_ | refine zj ?_ | refine zl ?_ | refine zo ?_ | refine zv ?_ | refine zw ?_ | refine zx ?_ | refine zy ?_ | refine zz ?_ | refine zza ?_ | refine zzb ?_ | refine zzc ?_ | refine zzd ?_ | refine zze ?_ | refine zzf ?_ | refine zzg ?_)
    refine x_load rfl rfl (hpmf c1) rfl trivial ?_
    repeat (first | refine za ?_ | refine zb ?_ | refine zd ?_ | refine zj ?_ | refine zl ?_ | refine zo ?_ | refine zv ?_ | refine zw ?_ | refine zx ?_ | refine zy ?_ | refine zz ?_ | refine zza ?_ | refine zzb ?_ | refine zzc ?_ | refine zzd ?_ | refine zze ?_ | refine zzf ?_ | refine zzg ?_)
    refine x_loads (cs := [kk, .int .u64 p.2]) rfl rfl rfl (hpmf (cels_two a1 a2)) rfl trivial ?_
    repeat (first | refine za ?_ | refine zb ?_ | refine zd ?_ | refine zj ?_ | refine zl ?_ | refine zo ?_ | refine zv ?_ | refine zw ?_ | refine zx ?_ | refine zy ?_ | refine zz ?_ | refine zza ?_ | refine zzb ?_ | refine zzc ?_ | refine zzd ?_ | refine zze ?_ | refine zzf ?_ | refine zzg ?_)
    refine x_yield rfl rfl rfl rfl (hy j i H1 p kk hJ hi hp a3) ?_
    rintro r H2 hr
    rcases hr with ⟨rfl, hJ2⟩ | ⟨rfl, hJx⟩
    · repeat (first | refine za ?_ | refine zb ?_ | refine zd ?_ | refine zj ?_ | refine zl ?_ | refine zo ?_ | refine zv ?_ | refine zw ?_ | refine zx ?_ | refine zy ?_ | refine zz ?_ | refine zza ?_ | refine zzb ?_ | refine zzc ?_ | refine zzd ?_ | refine zze ?_ | refine zzf ?_ | refine zzg ?_)
      refine nw_round (j + 1, (i : Int) - 1) (by repeat (first | exact True.intro | refine ⟨rfl, ?_⟩)) ⟨by show j + 1 ≤ _; omega, hJ2, by show (i : Int) - 1 = _ - 1 - ((j + 1 : Nat) : Int); omega⟩ (by show l.length - (j + 1) < l.length - j; omega)
    · repeat (first | refine za ?_ | refine zb ?_ | refine zd ?_ | refine zj ?_ | refine zl ?_ | refine zo ?_ | refine zv ?_ | refine zw ?_ | refine zx ?_ | refine zy ?_ | refine zz ?_ | refine zza ?_ | refine zzb ?_ | refine zzc ?_ | refine zzd ?_ | refine zze ?_ | refine zzf ?_ | refine zzg ?_)
      exact cw_ret0 rfl (.inr hJx)
  · have : j = l.length := by omega
    subst this
    repeat (first | refine za ?_ | refine zb ?_ | refine zd ?_ | refine zj ?_ | refine zl ?_ | refine zo ?_ | refine zv ?_ | refine zw ?_ | refine zx ?_ | refine zy ?_ | refine zz ?_ | refine zza ?_ | refine zzb ?_ | refine zzc ?_ | refine zzd ?_ | refine zze ?_ | refine zzf ?_ | refine zzg ?_)
    exact nw_end rfl (.inl hJ)

/-- the last pair whose key begins a key -/
def longM (l : List Pr) (k : Bytes) : Option Pr := l.reverse.find? fun p => begins k p.1
theorem longM_none {l : List Pr} {k : Bytes} (h : ∀ p ∈ l, begins k p.1 = false) : longM l k = none := List.find?_eq_none.2 fun p hp => by rw [h p (List.mem_reverse.1 hp)]; simp
theorem longM_at {l : List Pr} {k : Bytes} {i : Nat} {p : Pr} (hp : l[i]? = some p) (hb : begins k p.1 = true) (h : ∀ q ∈ l.drop (i + 1), begins k q.1 = false) : longM l k = some p := by
  have hi := (List.getElem?_eq_some_iff.1 hp)
  have e : l = l.take i ++ p :: l.drop (i + 1) := by
    have := List.drop_eq_getElem_cons hi.1
    rw [hi.2] at this
    rw [← this, List.take_append_drop]
  unfold longM
  conv => lhs; rw [e]
  have h1 : (l.drop (i + 1)).reverse.find? (fun p => begins k p.1) = none := List.find?_eq_none.2 fun q hq => by rw [h q (List.mem_reverse.1 hq)]; simp
  rw [List.reverse_append, List.reverse_cons, List.append_assoc, List.find?_append, h1]
  simp [hb]
theorem keep_back {l : Nat} {H H' : Heap} (h : Keep (· = l) H H') (e : H'[l]? = H[l]?) : Keep Non H H' := ⟨h.size, fun b hb _ => by
  by_cases hbl : b = l
  · subst hbl; exact e
  · exact h.blk b hb hbl⟩
theorem sat_round2 {n : Nat} {σ : Sl} {tmps : Array Value} {v1 v2 : Value} {p1 p2 : Nat} (h : Sat n σ ⟨tmps, []⟩) (h1 : Nat.blt p1 n = true) (h2 : Nat.blt p2 n = true) : Sat n ((p2, v2) :: (p1, v1) :: σ) ⟨((#[p1, p2] : Array Nat).zip [v1, v2].toArray).foldl (fun tmps (t, a) => tmps.setIfInBounds t a) tmps, []⟩ := by
  have h3 := (h.put h1 v1).put h2 v2
  have e : ((#[p1, p2] : Array Nat).zip [v1, v2].toArray).foldl (fun tmps (t, a) => tmps.setIfInBounds t a) tmps = (tmps.setIfInBounds p1 v1).setIfInBounds p2 v2 := by simp
  rw [e]
  exact h3
theorem sat_tmps {n : Nat} {σ : Sl} {tmps : Array Value} {a : Act} (h : Sat n σ ⟨tmps, []⟩) (e : a.tmps = tmps) : Sat n σ a.bare := by
  subst e
  exact h

theorem model_Longest {K : Role} {b : Nat} {vk : Value} {l : List Pr} {k : Bytes} {H : Heap} (hM : Mo K H b l) (hl : l.length ≤ 10000) (hkl : ∀ p ∈ l, p.1.length ≤ 1000000) (hK : Bs H vk k) :
    Ret Try.prog 53 [ptr b 0, vk] H (fun v H' => PairA H H' (longM l k) v) := by
  refine ret_ofM Try.func53 rfl rfl rfl rfl ?_
  intro w0
  repeat (first | refine za ?_ | refine zb ?_ | refine zc ?_ | refine zd ?_ | refine ze ?_ | refine zf ?_ | refine zg ?_ | refine zh ?_ | refine zi ?_ | refine zj ?_ | refine zk ?_ | refine zl ?_ | refine zm ?_ | refine zn ?_ | refine zo ?_ | refine zp ?_ | refine zq ?_ | refine zr ?_ | refine zs ?_ | refine zt ?_ | refine zu ?_ | refine zv ?_ | refine zw ?_ | refine zx ?_ | refine zy ?_ | refine zz ?_ | refine zza ?_ | refine zzb ?_ | refine zzc ?_ | refine zzd ?_ | refine zze ?_ | refine zzf ?_ | refine zzg ?_)
  refine x_box1 rfl rfl (isSl_oneC hK.sl) rfl trivial ?_
  intro H1 hn1
  refine ⟨trivial, ?_⟩
  repeat (first | refine za ?_ | refine zb ?_ | refine zc ?_ | refine zd ?_ | refine ze ?_ | refine zf ?_ | refine zg ?_ | refine zh ?_ | refine zi ?_ | refine zj ?_ | refine zk ?_ | refine zl ?_ | refine zm ?_ | refine zn ?_ | refine zo ?_ | refine zp ?_ | refine zq ?_ | refine zr ?_ | refine zs ?_ | refine zt ?_ | refine zu ?_ | refine zv ?_ | refine zw ?_ | refine zx ?_ | refine zy ?_ | refine zz ?_ | refine zza ?_ | refine zzb ?_ | refine zzc ?_ | refine zzd ?_ | refine zze ?_ | refine zzf ?_ | refine zzg ?_)
  refine x_alloc rfl rfl trivial ?_
  intro H2 hn2
  refine ⟨trivial, ?_⟩
  repeat (first | refine za ?_ | refine zb ?_ | refine zc ?_ | refine zd ?_ | refine ze ?_ | refine zf ?_ | refine zg ?_ | refine zh ?_ | refine zi ?_ | refine zj ?_ | refine zk ?_ | refine zl ?_ | refine zm ?_ | refine zn ?_ | refine zo ?_ | refine zp ?_ | refine zq ?_ | refine zr ?_ | refine zs ?_ | refine zt ?_ | refine zu ?_ | refine zv ?_ | refine zw ?_ | refine zx ?_ | refine zy ?_ | refine zz ?_ | refine zza ?_ | refine zzb ?_ | refine zzc ?_ | refine zzd ?_ | refine zze ?_ | refine zzf ?_ | refine zzg ?_)
  refine x_alloc1 rfl rfl rfl trivial ?_
  intro H3 hn3
  refine ⟨trivial, ?_⟩
  have hs1 := hn1.size
  have hs2 := hn2.size
  have hs3 := hn3.size
  have hk3 : Keep Non H H3 := (hn1.keep.non_trans hn2.keep).non_trans hn3.keep
  have b1 : Blk H3 H.size [vk] := (hn1.blk.keep hn2.keep (fun h => h)).keep hn3.keep (fun h => h)
  have b2 : Blk H3 H1.size [.slice none 0 0, .int .u64 0] := hn2.blk.keep hn3.keep (fun h => h)
  have b3 : Blk H3 H2.size [.bool false] := hn3.blk
  obtain ⟨u, c0, hP⟩ := (hM.keepN hk3).ps
  have sU := hP.sl
  repeat (first | refine za ?_ | refine zb ?_ | refine zc ?_ | refine zd ?_ | refine ze ?_ | refine zf ?_ | refine zg ?_ | refine zh ?_ | refine zi ?_ | refine zj ?_ | refine zk ?_ | refine zl ?_ | refine zm ?_ | refine zn ?_ | refine zo ?_ | refine zp ?_ | refine zq ?_ | refine zr ?_ | refine zs ?_ | refine zt ?_ | refine zu ?_ | refine zv ?_ | refine zw ?_ | refine zx ?_ | refine zy ?_ | refine zz ?_ | refine zza ?_ | refine zzb ?_ | refine zzc ?_ | refine zzd ?_ | refine zze ?_ | refine zzf ?_ | refine zzg ?_)
  refine x_load rfl rfl (hpmt (c0)) rfl trivial ?_
  repeat (first | refine za ?_ | refine zb ?_ | refine zc ?_ | refine zd ?_ | refine ze ?_ | refine zf ?_ | refine zg ?_ | refine zh ?_ | refine zi ?_ | refine zj ?_ | refine zk ?_ | refine zl ?_ | refine zm ?_ | refine zn ?_ | refine zo ?_ | refine zp ?_ | refine zq ?_ | refine zr ?_ | refine zs ?_ | refine zt ?_ | refine zu ?_ | refine zv ?_ | refine zw ?_ | refine zx ?_ | refine zy ?_ | refine zz ?_ | refine zza ?_ | refine zzb ?_ | refine zzc ?_ | refine zzd ?_ | refine zze ?_ | refine zzf ?_ | refine zzg ?_)
  refine x_call rfl rfl rfl trivial (slices_Backward sU) ?_
  rintro _ H4 ⟨hk4, hs4, rfl, cb⟩
  refine ⟨trivial, ?_⟩
  have hk04 := hk3.non_trans hk4
  repeat (first | refine za ?_ | refine zb ?_ | refine zc ?_ | refine zd ?_ | refine ze ?_ | refine zf ?_ | refine zg ?_ | refine zh ?_ | refine zi ?_ | refine zj ?_ | refine zk ?_ | refine zl ?_ | refine zm ?_ | refine zn ?_ | refine zo ?_ | refine zp ?_ | refine zq ?_ | refine zr ?_ | refine zs ?_ | refine zt ?_ | refine zu ?_ | refine zv ?_ | refine zw ?_ | refine zx ?_ | refine zy ?_ | refine zz ?_ | refine zza ?_ | refine zzb ?_ | refine zzc ?_ | refine zzd ?_ | refine zze ?_ | refine zzf ?_ | refine zzg ?_)
  refine cw_rangeFunc (lb := [ptr H3.size 0]) rfl ?_
  generalize hlA : (Code.region 4 _ false) = lA
  generalize hlB : (Code.block 1 _) = lB
  intro fn tmps H5 hsat hD hl5 hk5 hs5
  have hk05 := hk04.non_trans hk5
  have hb5 : cel H5 H3.size 0 = some u := hk5.cel cb (fun h => h)
  have hP5 : Ps H5 u l := (hP.keepN hk4).keepN hk5
  have hK5 : Bs H5 vk k := hK.keepN hk05
  have d1 : Blk H5 H.size [vk] := (b1.keep hk4 (fun h => h)).keep hk5 (fun h => h)
  have d2 : Blk H5 H1.size [.slice none 0 0, .int .u64 0] := (b2.keep hk4 (fun h => h)).keep hk5 (fun h => h)
  have d3 : Blk H5 H2.size [.bool false] := (b3.keep hk4 (fun h => h)).keep hk5 (fun h => h)
  obtain ⟨D, hDe⟩ : ∃ D, D = H4.size := ⟨_, rfl⟩
  rw [← hDe] at hD hl5 ⊢
  have hDs : D = H2.size + 2 := by omega
  have hs5' : H5.size = D + 2 := by omega
  refine Ret.mono (slices_Backward1 (l := l) (v := u)
    (fun j H' => Keep Non H5 H' ∧ ∀ q ∈ l.drop (l.length - j), begins k q.1 = false)
    (fun H' => ∃ p c, longM l k = some p ∧ Keep (fun x => x = D + 1 ∨ x = H1.size ∨ x = H2.size) H5 H' ∧ H'[D + 1]? = some (lpObj .done (some .ret) fn tmps #[16, 17] lA lB D) ∧ Blk H' H1.size [c, .int .u64 p.2] ∧ Blk H' H2.size [.bool true] ∧ Own 1 H' c p.1.length (bvs p.1) ∧ (0 < sc c → H5.size ≤ sb c)) sU (by omega)
    (fun j H' hJ => ⟨hJ.1.cel hb5 (fun h => h), hP5.keepN hJ.1⟩) ?_ ⟨Keep.refl _ _, by simp⟩) ?_
  · intro j i H6 p kk hJ hij hp hkk
    obtain ⟨hk6, hno⟩ := hJ
    have hl6 := hk6.get hl5 (fun h => h)
    have hs6 := hk6.size
    have hpl := hkl p (List.mem_of_getElem? hp)
    have hK6 := hK5.keepN hk6
    have e1 : Blk H6 H.size [vk] := d1.keep hk6 (fun h => h)
    have e2 : Blk H6 H1.size [.slice none 0 0, .int .u64 0] := d2.keep hk6 (fun h => h)
    have e3 : Blk H6 H2.size [.bool false] := d3.keep hk6 (fun h => h)
    refine yld_of hl6 rfl (sat_round2 hsat rfl rfl) (fun w0 => ?_)
    have hDl := lt_of_blk hl6
    rw [← hlA]
    refine rw_region ?_
    refine x_alloc rfl rfl trivial ?_
    intro H7 hn7
    refine ⟨trivial, ?_⟩
    refine x_stores rfl rfl rfl rfl (two_oneC' (isSl_oneC hkk.sl)) hn7.blk (by simp) trivial ?_
    intro H8 hB8 hk8 hs8
    refine ⟨trivial, ?_⟩
    rw [hlA]
    have hs7 := hn7.size
    have hk68 : Keep Non H6 H8 := keep_at hn7.keep hk8 (Nat.le_refl _)
    refine x_nil (nw_done fun a w ha hw => ⟨_, H8, ha, hw, hk68.get hl6 (fun h => h), fun H9 hl9 hk9 hs9 => ?_⟩)
    have hk69 : Keep (· = D + 1) H6 H9 := (hk68.mono (S' := (· = D + 1)) (fun _ _ h => h.elim)).step hk9 (fun _ _ e => e)
    have f1 : cel H9 H.size 0 = some vk := hk69.cel (by rw [e1.cel]; rfl) (by omega)
    have f7 : Cels H9 H6.size 0 [kk, .int .u64 p.2] := (hB8.cels 0 2 (by simp [putL])).keep hk9 (fun _ e => by omega)
    have f7' : cel H9 H6.size 0 = some kk := f7 0 (by simp)
    have hne : ∀ {c : Value} {n : Nat} {cs : List Value}, True := fun {_ _ _} => trivial
    have hkk9 : Bs H9 kk p.1 := hkk.keep hk69 (fun hne e => by
      have h0 := hkk.at_ 0 (by rw [bvs_length]; exact List.length_pos_iff.2 hne)
      rw [e] at h0
      unfold cel at h0
      rw [hl6] at h0
      cases h0)
    have hK9 : Bs H9 vk k := hK6.keep hk69 (fun hne e => by
      have h0 := hK6.at_ 0 (by rw [bvs_length]; exact List.length_pos_iff.2 hne)
      rw [e] at h0
      unfold cel at h0
      rw [hl6] at h0
      cases h0)
    rw [← hlB]
    refine rw_block (rw_seq (rw_region ?_))
    refine x_load rfl rfl (hpmf f1) rfl trivial ?_
    repeat (first | refine za ?_ | refine zb ?_ | refine zc ?_ | refine zd ?_ | refine ze ?_ | refine zf ?_ | refine zg ?_ | refine zh ?_ | refine zi ?_ | refine zj ?_ | refine zk ?_ | refine zl ?_ | refine zm ?_ | refine zn ?_ | refine zo ?_ | refine zp ?_ | refine zq ?_ | refine zr ?_ | refine zs ?_ | refine zt ?_ | refine zu ?_ | refine zv ?_ | refine zw ?_ | refine zx ?_ | refine zy ?_ | refine zz ?_ | refine zza ?_ | refine zzb ?_ | refine zzc ?_ | refine zzd ?_ | refine zze ?_ | refine zzf ?_ | refine zzg ?_)
    refine x_load rfl rfl (hpmf f7') rfl trivial ?_
    repeat (first | refine za ?_ | refine zb ?_ | refine zc ?_ | refine zd ?_ | refine ze ?_ | refine zf ?_ | refine zg ?_ | refine zh ?_ | refine zi ?_ | refine zj ?_ | refine zk ?_ | refine zl ?_ | refine zm ?_ | refine zn ?_ | refine zo ?_ | refine zp ?_ | refine zq ?_ | refine zr ?_ | refine zs ?_ | refine zt ?_ | refine zu ?_ | refine zv ?_ | refine zw ?_ | refine zx ?_ | refine zy ?_ | refine zz ?_ | refine zza ?_ | refine zzb ?_ | refine zzc ?_ | refine zzd ?_ | refine zze ?_ | refine zzf ?_ | refine zzg ?_)
    refine x_call rfl rfl rfl trivial (key_Begins hK9 hkk9) ?_
    rintro _ _ ⟨rfl, rfl⟩
    refine ⟨trivial, ?_⟩
    rw [hlB]
    refine x_nil (rw_next (rw_cond rfl (fun hbg => ?_) (fun hbg => ?_)))
    · refine rw_seq (rw_region ?_)
      refine x_loads (cs := [kk, .int .u64 p.2]) rfl rfl rfl (hpmf f7) rfl trivial ?_
      repeat (first | refine za ?_ | refine zb ?_ | refine zc ?_ | refine zd ?_ | refine ze ?_ | refine zf ?_ | refine zg ?_ | refine zh ?_ | refine zi ?_ | refine zj ?_ | refine zk ?_ | refine zl ?_ | refine zm ?_ | refine zn ?_ | refine zo ?_ | refine zp ?_ | refine zq ?_ | refine zr ?_ | refine zs ?_ | refine zt ?_ | refine zu ?_ | refine zv ?_ | refine zw ?_ | refine zx ?_ | refine zy ?_ | refine zz ?_ | refine zza ?_ | refine zzb ?_ | refine zzc ?_ | refine zzd ?_ | refine zze ?_ | refine zzf ?_ | refine zzg ?_)
      refine x_call rfl rfl rfl trivial (model_copied hkk9 hpl) ?_
      rintro _ H10 ⟨hk10, c, rfl, hc10, hf10⟩
      refine ⟨trivial, ?_⟩
      have hs10 := hk10.size
      have g2 : Blk H10 H1.size [.slice none 0 0, .int .u64 0] := (e2.keep hk69 (by omega)).keep hk10 (fun h => h)
      have g3 : Blk H10 H2.size [.bool false] := (e3.keep hk69 (by omega)).keep hk10 (fun h => h)
      refine x_stores rfl rfl rfl rfl (two_oneC' (isSl_oneC hc10.sl)) g2 (by simp) trivial ?_
      intro H11 hB11 hk11 hs11
      refine ⟨trivial, ?_⟩
      refine x_store rfl rfl rfl rfl (g3.keep hk11 (by omega)) (by simp) trivial ?_
      intro H12 hB12 hk12 hs12
      refine ⟨trivial, ?_⟩
      refine x_nil (rw_next (rw_ret fun a w ha hw => ?_))
      have hl12 : H12[D + 1]? = some (lpObj .busy none fn tmps #[16, 17] lA lB D) := hk12.get (hk11.get (hk10.get hl9 (fun h => h)) (by omega)) (by omega)
      have hwh := hw.heap
      subst hwh
      show (_ ∧ _) ∧ (_ ∨ _)
      refine ⟨⟨hl12, hw⟩, .inr ⟨rfl, fun H13 hl13 hk13 hs13 => .inr ⟨rfl, p, c, ?_, ?_, hl13, ?_, ?_, ?_, fun hc => ?_⟩⟩⟩
      · refine longM_at hp hbg ?_
        have : i + 1 = l.length - j := by omega
        rw [this]
        exact hno
      · have h1 : Keep (fun x => x = D + 1 ∨ x = H1.size ∨ x = H2.size) H5 H9 := (hk6.mono (fun _ _ h => h.elim)).step hk69 (fun _ _ e => .inl e)
        have h2 := h1.step hk10 (fun _ _ h => h.elim)
        have h3 := h2.step hk11 (fun _ _ e => .inr (.inl e))
        have h4 := h3.step hk12 (fun _ _ e => .inr (.inr e))
        exact h4.step hk13 (fun _ _ e => .inl e)
      · have := (hB11.keep hk12 (by omega)).keep hk13 (by omega)
        simpa [putL] using this
      · exact hB12.keep hk13 (by omega)
      · have h1 := (hc10.keep hk11 (fun hc e => by have := hf10 hc; omega)).keep hk12 (fun hc e => by have := hf10 hc; omega)
        exact h1.keep hk13 (fun hc e => by have := hf10 hc; omega)
      · have := hf10 hc
        have := hk69.size
        omega
    · refine rw_skip fun a w ha hw => ?_
      have hwh := hw.heap
      subst hwh
      show (_ ∧ _) ∧ (_ ∨ _)
      refine ⟨⟨hl9, hw⟩, .inl ⟨rfl, fun H13 hl13 hk13 hs13 => .inl ⟨rfl, ?_, ?_⟩⟩⟩
      · exact hk6.non_trans (keep_back (hk69.step hk13 (fun _ _ e => e)) (by rw [hl13, hl6]))
      · have e4 : l.length - (j + 1) = i := by omega
        have e5 : l.length - j = i + 1 := by omega
        rw [e4]
        rw [e5] at hno
        have hd := List.drop_eq_getElem_cons (List.getElem?_eq_some_iff.1 hp).1
        rw [(List.getElem?_eq_some_iff.1 hp).2] at hd
        rw [hd]
        intro q hq
        rcases List.mem_cons.1 hq with rfl | hq
        · exact hbg
        · exact hno q hq
  · intro r H6 hr
    have hs4' : D + 1 = D + 1 := rfl
    rcases hr with ⟨hk6, hno⟩ | ⟨p, c, hlm, hk6, hl6, e2, e3, hc, hfc⟩
    · refine ⟨.ready, none, by simp, hk6.get hl5 (fun h => h), fun H7 hk7 hs7 a w ha hd hw => .inl ⟨rfl, ?_⟩⟩
      have hnone : longM l k = none := longM_none (by simpa using hno)
      have e2 : Blk H7 H1.size [.slice none 0 0, .int .u64 0] := (d2.keep hk6 (fun h => h)).keep hk7 (by omega)
      have e3 : Blk H7 H2.size [.bool false] := (d3.keep hk6 (fun h => h)).keep hk7 (by omega)
      have eD : H7[D]? = some (.deferred (some [])) := hk7.get (hk6.get hD (fun h => h)) (by omega)
      have hk07 : Keep Non H H7 := (hk05.non_trans hk6).old hk7 (fun x hx e => by omega)
      show Code.wp _ (Code.seq _ _) _ _ _
      refine wp_seq (wp_mark (ds := mark D) (n := Try.f53.ntmps) (N := fun b w => Wd w0 w.heap w ∧ b.tmps[4]? = some (ptr H1.size 0) ∧ b.tmps[5]? = some (ptr H2.size 0) ∧ Keep Non H w.heap ∧ w.heap[D]? = some (.deferred (some [])) ∧ Cels w.heap H1.size 0 [.slice none 0 0, .int .u64 0] ∧ cel w.heap H2.size 0 = some (.bool false)) ?_ ?_ (sat_tmps hsat ha) hd hw)
      · refine x_build (cs := [.slice none 0 0, .int .u64 0]) rfl rfl rfl (by simp) rfl trivial ?_
        refine x_stores rfl rfl rfl rfl (by simp [oneC, Value.oneCell']) e2 (by simp) trivial ?_
        intro H8 hB8 hk8 hs8
        refine ⟨trivial, ?_⟩
        refine x_store rfl rfl rfl rfl (e3.keep hk8 (by omega)) (by simp) trivial ?_
        intro H9 hB9 hk9 hs9
        refine ⟨trivial, ?_⟩
        refine x_nil (nw_done fun b w' hb hw' => ⟨⟨rfl, hw'.os, hw'.tape, hw'.output⟩, hb.val 4 _ rfl, hb.val 5 _ rfl, ?_⟩)
        rw [hw'.heap]
        refine ⟨(hk07.old hk8 (fun x hx e => by omega)).old hk9 (fun x hx e => by omega), hk9.get (hk8.get eD (by omega)) (by omega), ?_, by rw [hB9.cel]; rfl⟩
        have := (hB8.keep hk9 (by omega)).cels 0 2 (by simp [putL])
        simpa [putL] using this
      · rintro b w' ⟨q1, q2, q3, q4, q5, q6, q7⟩ hdb
        refine wp_ret ?_
        show LeavesInM _ _ _ _ _ _ b.defers _ _
        rw [hdb]
        refine lng_leave rfl q2 q3 q1 q5 q6 q7 (fun H' hk' => ?_)
        rw [hnone]
        exact ⟨q4.old hk' (fun x hx e => by omega), .slice none 0 0, rfl, Own.nil _ _, Fresh.nil _⟩
    · refine ⟨.done, some .ret, by simp, hl6, fun H7 hk7 hs7 a w ha hd hw => .inr ⟨rfl, ?_⟩⟩
      have hsa := sat_tmps hsat ha
      have eD : H7[D]? = some (.deferred (some [])) := hk7.get (hk6.get hD (by omega)) (by omega)
      have hk07 : Keep Non H H7 := (hk05.old hk6 (fun x hx e => by omega)).old hk7 (fun x hx e => by omega)
      show LeavesInM _ _ _ _ _ _ a.defers _ _
      rw [hd]
      have hwh := hw.heap
      subst hwh
      refine lng_leave rfl (hsa.val 4 _ rfl) (hsa.val 5 _ rfl) hw eD ((e2.keep hk7 (by omega)).cels 0 2 (by simp)) (by rw [(e3.keep hk7 (by omega)).cel]; rfl) (fun H' hk' => ?_)
      rw [hlm]
      exact ⟨hk07.old hk' (fun x hx e => by omega), c, rfl, (hc.keep hk7 (fun hc e => by have := hfc hc; omega)).keep hk' (fun hc e => by have := hfc hc; omega), fun hcc => by have := hfc hcc; omega⟩
end Go.Proofs.Ytaloblomncjgkaa.X
