/- Chapter 15's statements: BurstUndoes. -/
import Derived.Test.YtaloblomncjgkaaRgt
import Derived.Test.YtaloblomncjgkaaDne
import Derived.Test.YtaloblomncjgkaaKbn
namespace Go.Proofs.Ytaloblomncjgkaa.X
open Go Go.Proofs
set_option linter.unusedVariables false
set_option linter.unusedSimpArgs false
set_option maxRecDepth 10000
set_option maxHeartbeats 4000000

theorem Cels.at? {H : Heap} {b o : Nat} {cs : List Value} (h : Cels H b o cs) {i : Nat} {v : Value} (hv : cs[i]? = some v) : cel H b (o + i) = some v := by
  obtain ⟨hi, e⟩ := List.getElem?_eq_some_iff.1 hv
  rw [h i hi, e]
theorem App.sep {Q : Nat → Prop} {s : Nat} {H H' : Heap} {v v' : Value} {n m : Nat} {cs cx : List Value} (hap : App s H H' v v' n cs cx m) (h : 0 < sc v → Q (sb v)) (hn : ∀ z, H.size ≤ z → Q z) : 0 < sc v' → Q (sb v') := fun hc => by
  rcases hap.place with ⟨e1, _, e3, _⟩ | ⟨e1, _⟩
  · rw [e1]; exact h (by omega)
  · rw [e1]; exact hn _ (Nat.le_refl _)
/-- two rows of what the puts answered -/
structure Recs (Q : Nat → Prop) (H : Heap) (vo vh : Value) (rs : List (Int × Bool)) : Prop where
  o : Own 1 H vo rs.length (rs.map fun x => Value.int .u64 x.1)
  h : Own 1 H vh rs.length (rs.map fun x => Value.bool x.2)
  qo : 0 < sc vo → Q (sb vo)
  qh : 0 < sc vh → Q (sb vh)
  ne : 0 < sc vo → 0 < sc vh → sb vo ≠ sb vh
theorem Recs.keep {Q Q' S : Nat → Prop} {H H' : Heap} {vo vh : Value} {rs : List (Int × Bool)} (h : Recs Q H vo vh rs) (k : Keep S H H') (hS : ∀ z, z < H.size → Q z → ¬ S z ∧ Q' z) : Recs Q' H' vo vh rs :=
  ⟨h.o.keep k (fun hc => (hS _ (h.o.lt hc) (h.qo hc)).1), h.h.keep k (fun hc => (hS _ (h.h.lt hc) (h.qh hc)).1), fun hc => (hS _ (h.o.lt hc) (h.qo hc)).2, fun hc => (hS _ (h.h.lt hc) (h.qh hc)).2, h.ne⟩
/-- the state: j of the others stand -/
structure UndA (H0 H : Heap) (b c : Nat) (l0 l2 : List Pr) (j m : Nat) (vo vh : Value) (rs : List (Int × Bool)) : Prop where
  row : ∃ G W t, Duo H0 G W H b 5000 c t l0 ∧ t.pairs [] = stepsL l0 l2 j ∧ t.size ≤ 1600 + m * 29 ∧ Recs (fun z => G z = 0 ∧ W z = 0 ∧ H0.size ≤ z) H vo vh rs
theorem stepsL_len (l0 l2 : List Pr) (i : Nat) : (stepsL l0 l2 i).length ≤ l0.length + i := by
  unfold stepsL
  have : ∀ (l m : List Pr), (l.foldl (fun m p => putM m p.1 p.2) m).length ≤ m.length + l.length := fun l => by
    induction l with
    | nil => intro m; exact Nat.le_refl _
    | cons p l ih =>
      intro m
      have h1 := ih (putM m p.1 p.2)
      have h2 := putM_le m p.1 p.2
      simp only [List.foldl_cons, List.length_cons]
      omega
  have h1 := this (l2.take i) l0
  have h2 := List.length_take_le i l2
  omega

theorem walk_BurstUndoes {va vb : Value} {l1 l2 : List Pr} {H : Heap} (hA : Ps H va l1) (hB : Ps H vb l2) : Ret Try.prog 12 [va, vb] H (Yes H) := by
  have sA := hA.sl
  have cA := sA.cap
  have sB := hB.sl
  have cB := sB.cap
  refine ret_of Try.func12 rfl rfl rfl rfl ?_
  intro w0
  repeat (first | refine za ?_ | refine zb ?_ | refine zc ?_ | refine zd ?_ | refine zg ?_ | refine zj ?_ | refine zl ?_ | refine zm ?_ | refine zn ?_ | refine zo ?_ | refine zr ?_ | refine zs ?_ | refine zt ?_ | refine zu ?_ | refine zv ?_ | refine zw ?_ | refine zx ?_ | refine zy ?_ | refine zz ?_ | refine zza ?_ | refine zzb ?_ | refine zzc ?_ | refine zzd ?_ | refine zze ?_ | refine zzf ?_ | refine zzg ?_)
  refine x_call rfl rfl rfl trivial (law_GreatPairs 30 20 (by omega) hA) ?_
  rintro _ _ ⟨rfl, b1, rfl, h1⟩
  refine ⟨trivial, ?_⟩
  repeat (first | refine za ?_ | refine zb ?_ | refine zc ?_ | refine zd ?_ | refine zg ?_ | refine zj ?_ | refine zl ?_ | refine zm ?_ | refine zn ?_ | refine zo ?_ | refine zr ?_ | refine zs ?_ | refine zt ?_ | refine zu ?_ | refine zv ?_ | refine zw ?_ | refine zx ?_ | refine zy ?_ | refine zz ?_ | refine zza ?_ | refine zzb ?_ | refine zzc ?_ | refine zzd ?_ | refine zze ?_ | refine zzf ?_ | refine zzg ?_)
  cases b1 with
  | true =>
    repeat (first | refine za ?_ | refine zb ?_ | refine zc ?_ | refine zd ?_ | refine zg ?_ | refine zj ?_ | refine zl ?_ | refine zm ?_ | refine zn ?_ | refine zo ?_ | refine zr ?_ | refine zs ?_ | refine zt ?_ | refine zu ?_ | refine zv ?_ | refine zw ?_ | refine zx ?_ | refine zy ?_ | refine zz ?_ | refine zza ?_ | refine zzb ?_ | refine zzc ?_ | refine zzd ?_ | refine zze ?_ | refine zzf ?_ | refine zzg ?_)
    refine x_call rfl rfl rfl trivial (awake15 _) ?_
    rintro _ Hz ⟨rfl, hkz⟩
    refine ⟨trivial, ?_⟩
    repeat (first | refine za ?_ | refine zb ?_ | refine zc ?_ | refine zd ?_ | refine zg ?_ | refine zj ?_ | refine zl ?_ | refine zm ?_ | refine zn ?_ | refine zo ?_ | refine zr ?_ | refine zs ?_ | refine zt ?_ | refine zu ?_ | refine zv ?_ | refine zw ?_ | refine zx ?_ | refine zy ?_ | refine zz ?_ | refine zza ?_ | refine zzb ?_ | refine zzc ?_ | refine zzd ?_ | refine zze ?_ | refine zzf ?_ | refine zzg ?_)
    exact cw_ret1 rfl rfl ⟨rfl, (Keep.refl Non H).non_trans hkz⟩
  | false =>
  obtain ⟨hl1, hk1⟩ := h1 rfl
  repeat (first | refine za ?_ | refine zb ?_ | refine zc ?_ | refine zd ?_ | refine zg ?_ | refine zj ?_ | refine zl ?_ | refine zm ?_ | refine zn ?_ | refine zo ?_ | refine zr ?_ | refine zs ?_ | refine zt ?_ | refine zu ?_ | refine zv ?_ | refine zw ?_ | refine zx ?_ | refine zy ?_ | refine zz ?_ | refine zza ?_ | refine zzb ?_ | refine zzc ?_ | refine zzd ?_ | refine zze ?_ | refine zzf ?_ | refine zzg ?_)
  refine x_call rfl rfl rfl trivial (law_GreatPairs 20 20 (by omega) hB) ?_
  rintro _ _ ⟨rfl, b2, rfl, h2⟩
  refine ⟨trivial, ?_⟩
  repeat (first | refine za ?_ | refine zb ?_ | refine zc ?_ | refine zd ?_ | refine zg ?_ | refine zj ?_ | refine zl ?_ | refine zm ?_ | refine zn ?_ | refine zo ?_ | refine zr ?_ | refine zs ?_ | refine zt ?_ | refine zu ?_ | refine zv ?_ | refine zw ?_ | refine zx ?_ | refine zy ?_ | refine zz ?_ | refine zza ?_ | refine zzb ?_ | refine zzc ?_ | refine zzd ?_ | refine zze ?_ | refine zzf ?_ | refine zzg ?_)
  cases b2 with
  | true =>
    repeat (first | refine za ?_ | refine zb ?_ | refine zc ?_ | refine zd ?_ | refine zg ?_ | refine zj ?_ | refine zl ?_ | refine zm ?_ | refine zn ?_ | refine zo ?_ | refine zr ?_ | refine zs ?_ | refine zt ?_ | refine zu ?_ | refine zv ?_ | refine zw ?_ | refine zx ?_ | refine zy ?_ | refine zz ?_ | refine zza ?_ | refine zzb ?_ | refine zzc ?_ | refine zzd ?_ | refine zze ?_ | refine zzf ?_ | refine zzg ?_)
    refine x_call rfl rfl rfl trivial (awake15 _) ?_
    rintro _ Hz ⟨rfl, hkz⟩
    refine ⟨trivial, ?_⟩
    repeat (first | refine za ?_ | refine zb ?_ | refine zc ?_ | refine zd ?_ | refine zg ?_ | refine zj ?_ | refine zl ?_ | refine zm ?_ | refine zn ?_ | refine zo ?_ | refine zr ?_ | refine zs ?_ | refine zt ?_ | refine zu ?_ | refine zv ?_ | refine zw ?_ | refine zx ?_ | refine zy ?_ | refine zz ?_ | refine zza ?_ | refine zzb ?_ | refine zzc ?_ | refine zzd ?_ | refine zze ?_ | refine zzf ?_ | refine zzg ?_)
    exact cw_ret1 rfl rfl ⟨rfl, (Keep.refl Non H).non_trans hkz⟩
  | false =>
    obtain ⟨hl2, hk2⟩ := h2 rfl
    have hr0 := newM_rises l1
    have hkm := newM_keys hk1
    have hlm := newM_length l1
    repeat (first | refine za ?_ | refine zb ?_ | refine zc ?_ | refine zd ?_ | refine zg ?_ | refine zj ?_ | refine zl ?_ | refine zm ?_ | refine zn ?_ | refine zo ?_ | refine zr ?_ | refine zs ?_ | refine zt ?_ | refine zu ?_ | refine zv ?_ | refine zw ?_ | refine zx ?_ | refine zy ?_ | refine zz ?_ | refine zza ?_ | refine zzb ?_ | refine zzc ?_ | refine zzd ?_ | refine zze ?_ | refine zzf ?_ | refine zzg ?_)
    refine x_call rfl rfl rfl trivial (ref_NewW hA (by omega) (fun p hp => by have := hk1 p hp; omega)) ?_
    rintro _ H1 ⟨hk01, c, W, rfl, hFW, hM1⟩
    refine ⟨trivial, ?_⟩
    generalize newM l1 = l0 at *
    have hs1 := hk01.size
    repeat (first | refine za ?_ | refine zb ?_ | refine zc ?_ | refine zd ?_ | refine zg ?_ | refine zj ?_ | refine zl ?_ | refine zm ?_ | refine zn ?_ | refine zo ?_ | refine zr ?_ | refine zs ?_ | refine zt ?_ | refine zu ?_ | refine zv ?_ | refine zw ?_ | refine zx ?_ | refine zy ?_ | refine zz ?_ | refine zza ?_ | refine zzb ?_ | refine zzc ?_ | refine zzd ?_ | refine zze ?_ | refine zzf ?_ | refine zzg ?_)
    refine x_call rfl rfl rfl trivial (tree_New 5000) ?_
    rintro v1 H2 h1
    refine ⟨trivial, ?_⟩
    rcases h1 with ⟨h1, _⟩ | ⟨_, _, hk12, b, G1, rfl, hF1, hB1⟩
    · omega
    have hB1 : Bu G1 H2 b 5000 .nil := hB1
    have hD2 : Duo H G1 W H2 b 5000 c .nil l0 := ⟨⟨hB1, hF1.mono hs1, hk01.non_trans hk12⟩, hM1.keepN hk12, hFW, fun x hx => hM1.win.off (hF1 x hx)⟩
    have hnd := needs_bd hkm
    have hnd2 : l0.length * (2 * 20 + 12) ≤ 30 * 52 := Nat.mul_le_mul (by omega) (Nat.le_refl _)
    have hmy : mayC l0 = 0 := by
      unfold mayC
      rw [longs_no (fun p hp => by have := hkm p hp; omega), hr0]
      rfl
    have hO := mayC_ok hmy
    have hbs := buildT_size hO
    obtain ⟨u, hBu, hPu, _⟩ := id hD2.ref.row
    have c0 : cel H2 c 0 = some u := by rw [hBu.cel]; rfl
    have hPs := hPu.ps (fun _ _ h => h.1)
    repeat (first | refine za ?_ | refine zb ?_ | refine zc ?_ | refine zd ?_ | refine zg ?_ | refine zj ?_ | refine zl ?_ | refine zm ?_ | refine zn ?_ | refine zo ?_ | refine zr ?_ | refine zs ?_ | refine zt ?_ | refine zu ?_ | refine zv ?_ | refine zw ?_ | refine zx ?_ | refine zy ?_ | refine zz ?_ | refine zza ?_ | refine zzb ?_ | refine zzc ?_ | refine zzd ?_ | refine zze ?_ | refine zzf ?_ | refine zzg ?_)
    refine x_load rfl rfl (hpmt (c0)) rfl trivial ?_
    repeat (first | refine za ?_ | refine zb ?_ | refine zc ?_ | refine zd ?_ | refine zg ?_ | refine zj ?_ | refine zl ?_ | refine zm ?_ | refine zn ?_ | refine zo ?_ | refine zr ?_ | refine zs ?_ | refine zt ?_ | refine zu ?_ | refine zv ?_ | refine zw ?_ | refine zx ?_ | refine zy ?_ | refine zz ?_ | refine zza ?_ | refine zzb ?_ | refine zzc ?_ | refine zzd ?_ | refine zze ?_ | refine zzf ?_ | refine zzg ?_)
    refine x_call rfl rfl rfl trivial (tree_Build hD2.mine.bu hPs (by omega) (fun _ => by omega)) ?_
    rintro r3 H3 h3
    refine ⟨trivial, ?_⟩
    cases h3 with
    | bad h e keep => exact absurd hmy h
    | full h hm e keep => omega
    | ok h hm e hk23 G3 hE3 hB3 =>
      subst e
      have hD3 := hD2.turnG hk23 hE3 (hD2.mine.turn hk23 hE3 hB3)
      repeat (first | refine za ?_ | refine zb ?_ | refine zc ?_ | refine zd ?_ | refine zg ?_ | refine zj ?_ | refine zl ?_ | refine zm ?_ | refine zn ?_ | refine zo ?_ | refine zr ?_ | refine zs ?_ | refine zt ?_ | refine zu ?_ | refine zv ?_ | refine zw ?_ | refine zx ?_ | refine zy ?_ | refine zz ?_ | refine zza ?_ | refine zzb ?_ | refine zzc ?_ | refine zzd ?_ | refine zze ?_ | refine zzf ?_ | refine zzg ?_)
      refine cw_loop (fun s : Nat × Value × Value => [(1, vb), (5, ptr c 0), (6, ptr b 0), (7, s.2.1), (8, s.2.2), (9, .int .i64 s.1)]) (fun s H' => s.1 ≤ l2.length ∧ UndA H H' b c l0 l2 s.1 s.1 s.2.1 s.2.2 ((recs l0 l2).take s.1)) (fun s => l2.length - s.1) (0, _, _) (by repeat (first | exact True.intro | refine ⟨rfl, ?_⟩)) ⟨Nat.zero_le _, ⟨G3, W, _, hD3, buildT_pairs hO, by omega, ⟨Own.nil 1 H3, Own.nil 1 H3, fun h => by simp [sc] at h, fun h => by simp [sc] at h, fun h => by simp [sc] at h⟩⟩⟩ ?_
      rintro ⟨i, vo, vh⟩ H4 ⟨hi, ⟨G, W, t, hD, htp, hsz, hR⟩⟩
      simp only at hi htp hsz hR ⊢
      have hct := hD.mine.bu.len
      rw [htp] at hct
      have hct2 := stepsL_len l0 l2 i
      repeat (first | refine za ?_ | refine zb ?_ | refine zc ?_ | refine zd ?_ | refine zg ?_ | refine zj ?_ | refine zl ?_ | refine zm ?_ | refine zn ?_ | refine zo ?_ | refine zr ?_ | refine zs ?_ | refine zt ?_ | refine zu ?_ | refine zv ?_ | refine zw ?_ | refine zx ?_ | refine zy ?_ | refine zz ?_ | refine zza ?_ | refine zzb ?_ | refine zzc ?_ | refine zzd ?_ | refine zze ?_ | refine zzf ?_ | refine zzg ?_)
      refine cw_cond rfl (fun hil => ?_) (fun hil => ?_) <;> (try simp at hil)
      · obtain ⟨p, hp⟩ := getp (l := l2) hil
        obtain ⟨k0, d1, d2, d3⟩ := hB.at_ i p hp
        have a1 := hD.mine.keep.cel d1 (fun h => h)
        have a2 := hD.mine.keep.cel d2 (fun h => h)
        have a3 := d3.keepN hD.mine.keep
        have hpl := hk2 p (List.mem_of_getElem? hp)
        have hrl : ((recs l0 l2).take i).length = i := by rw [List.length_take, recs_len]; omega
        have hkr := Keep.refl Non H4
        repeat (first | refine za ?_ | refine zb ?_ | refine zc ?_ | refine zd ?_ | refine zj ?_ | refine zl ?_ | refine zm ?_ | refine zn ?_ | refine zo ?_ | refine zr ?_ | refine zs ?_ | refine zt ?_ | refine zu ?_ | refine zv ?_ | refine zw ?_ | refine zx ?_ | refine zy ?_ | refine zz ?_ | refine zza ?_ | refine zzb ?_ | refine zzc ?_ | refine zze ?_ | refine zzf ?_ | refine zzg ?_)
        refine cw_held (fun _ => Keep Non H4) ⟨[11], [(5, 0), (10, 0)]⟩ (.op 0 (.op 1 (.op 2 (.op 3 (.op 4 (.op 5 (.op 6 (.op 7 (.op 8 (.op 9 (.op 10 (.op 11 (.op 12 (.op 13 (.op 14 (.op 15 (.op 16 (.op 17 (.op 18 (.nil)))))))))))))))))))) panicOk_body mixed (by kernel_rfl) ?_
        repeat (first | refine za ?_ | refine zb ?_ | refine zc ?_ | refine zd ?_ | refine zj ?_ | refine zl ?_ | refine zm ?_ | refine zn ?_ | refine zo ?_ | refine zr ?_ | refine zs ?_ | refine zt ?_ | refine zu ?_ | refine zv ?_ | refine zw ?_ | refine zx ?_ | refine zy ?_ | refine zz ?_ | refine zza ?_ | refine zzb ?_ | refine zzc ?_ | refine zzd ?_ | refine zze ?_ | refine zzf ?_ | refine zzg ?_)
        refine x_load rfl rfl (hpmk rfl (fun _ hk => hk.cel a1 (fun h => h))) rfl (okq_load rfl rfl (by assumption)) ?_
        repeat (first | refine za ?_ | refine zb ?_ | refine zc ?_ | refine zd ?_ | refine zj ?_ | refine zl ?_ | refine zm ?_ | refine zn ?_ | refine zo ?_ | refine zr ?_ | refine zs ?_ | refine zt ?_ | refine zu ?_ | refine zv ?_ | refine zw ?_ | refine zx ?_ | refine zy ?_ | refine zz ?_ | refine zza ?_ | refine zzb ?_ | refine zzc ?_ | refine zzd ?_ | refine zze ?_ | refine zzf ?_ | refine zzg ?_)
        refine x_load rfl rfl (hpmk rfl (fun _ hk => hk.cel a2 (fun h => h))) rfl (okq_load rfl rfl (by assumption)) ?_
        repeat (first | refine za ?_ | refine zb ?_ | refine zc ?_ | refine zd ?_ | refine zj ?_ | refine zl ?_ | refine zm ?_ | refine zn ?_ | refine zo ?_ | refine zr ?_ | refine zs ?_ | refine zt ?_ | refine zu ?_ | refine zv ?_ | refine zw ?_ | refine zx ?_ | refine zy ?_ | refine zz ?_ | refine zza ?_ | refine zzb ?_ | refine zzc ?_ | refine zzd ?_ | refine zze ?_ | refine zzf ?_ | refine zzg ?_)
        refine x_call rfl rfl rfl ⟨rfl, rfl⟩ (mine_put p.2 hD.mine (by omega) a3 (fun hne => hD.mine.off (d3.lt hne)) (by omega) (by omega)) ?_
        rw [htp]
        rintro _ H5 ⟨rfl, hk5, G5, hE5, hM5⟩
        refine ⟨okm_free (fun c => by cases c <;> kernel_rfl), ?_⟩
        have hD5 := hD.turnG hk5 hE5 hM5
        have hR5 := hR.keep (Q' := fun z => G5 z = 0 ∧ W z = 0 ∧ H.size ≤ z) hk5 (fun z hz e => ⟨fun h => h e.1, hE5.zero hz e.1, e.2⟩)
        have hW := hD.mine.bu.wf
        have htp5 : (t.put [] (p.1, p.2)).pairs [] = stepsL l0 l2 (i + 1) := by rw [BT.put_pairs hW.wf0 (begins_nil' _) (show p.1.length ≤ 65535 by omega), htp, stepsL_succ hp]
        have hsz5 := (BT.put_size t (w := []) (p := p) hW (begins_nil' _) (by omega)).1
        simp only [List.length_nil] at hsz5
        have hD5' : Duo H G5 W H5 b 5000 c (t.put [] p) l0 := hD5
        repeat (first | refine za ?_ | refine zb ?_ | refine zc ?_ | refine zd ?_ | refine zj ?_ | refine zl ?_ | refine zm ?_ | refine zn ?_ | refine zo ?_ | refine zr ?_ | refine zs ?_ | refine zt ?_ | refine zu ?_ | refine zv ?_ | refine zw ?_ | refine zx ?_ | refine zy ?_ | refine zz ?_ | refine zza ?_ | refine zzb ?_ | refine zzc ?_ | refine zzd ?_ | refine zze ?_ | refine zzf ?_ | refine zzg ?_)
        repeat (first | refine za ?_ | refine zb ?_ | refine zc ?_ | refine zd ?_ | refine zg ?_ | refine zj ?_ | refine zl ?_ | refine zm ?_ | refine zn ?_ | refine zo ?_ | refine zr ?_ | refine zs ?_ | refine zt ?_ | refine zu ?_ | refine zv ?_ | refine zw ?_ | refine zx ?_ | refine zy ?_ | refine zz ?_ | refine zza ?_ | refine zzb ?_ | refine zzc ?_ | refine zzd ?_ | refine zze ?_ | refine zzf ?_ | refine zzg ?_)
        obtain ⟨ov, hov⟩ : ∃ ov, ov = (getM (stepsL l0 l2 i) p.1).getD 0 := ⟨_, rfl⟩
        obtain ⟨hv, hhv⟩ : ∃ hv, hv = there (stepsL l0 l2 i) p.1 := ⟨_, rfl⟩
        rw [← hov, ← hhv]
        repeat (first | refine za ?_ | refine zb ?_ | refine zc ?_ | refine zd ?_ | refine zg ?_ | refine zj ?_ | refine zl ?_ | refine zm ?_ | refine zn ?_ | refine zo ?_ | refine zr ?_ | refine zs ?_ | refine zt ?_ | refine zu ?_ | refine zv ?_ | refine zw ?_ | refine zx ?_ | refine zy ?_ | refine zz ?_ | refine zza ?_ | refine zzb ?_ | refine zzc ?_ | refine zzd ?_ | refine zze ?_ | refine zzf ?_ | refine zzg ?_)
        refine x_buildSlice rfl rfl rfl rfl (by omega) (by simp [oneC, Value.oneCell']) rfl trivial ?_
        intro H6 hn6
        refine ⟨trivial, ?_⟩
        have hs6 := hn6.size
        have hR6 := hR5.keep (Q' := fun z => G5 z = 0 ∧ W z = 0 ∧ H.size ≤ z) hn6.keep (fun z _ e => ⟨fun h => h, e⟩)
        have ho6 := hR6.o
        rw [hrl] at ho6
        refine x_append (by rfl) (by rfl) (by rfl) rfl rfl rfl ho6 (isSl_some (Nat.le_refl _) (by omega)) (m := 1) (cx := [.int .u64 ov]) rfl (hn6.blk.cels 0 1 (by simp)) (by simp [oneC, Value.oneCell']) (by omega) rfl trivial ?_
        intro vo' H7 hap7
        refine ⟨trivial, ?_⟩
        have hs7 := hap7.keep.size
        have hh7 := hR6.h.keep hap7.keep (fun hc e => hR6.ne (by have := e.2; omega) hc e.1.symm)
        rw [hrl] at hh7
        have hne7 : 0 < sc vo' → 0 < sc vh → sb vo' ≠ sb vh := fun h1 => App.sep (Q := fun z => 0 < sc vh → z ≠ sb vh) hap7 (fun hc hch => hR6.ne hc hch) (fun z hz hch e => by have := hR6.h.lt hch; omega) h1
        repeat (first | refine za ?_ | refine zb ?_ | refine zc ?_ | refine zd ?_ | refine zg ?_ | refine zj ?_ | refine zl ?_ | refine zm ?_ | refine zn ?_ | refine zo ?_ | refine zr ?_ | refine zs ?_ | refine zt ?_ | refine zu ?_ | refine zv ?_ | refine zw ?_ | refine zx ?_ | refine zy ?_ | refine zz ?_ | refine zza ?_ | refine zzb ?_ | refine zzc ?_ | refine zzd ?_ | refine zze ?_ | refine zzf ?_ | refine zzg ?_)
        refine x_buildSlice rfl rfl rfl rfl (by omega) (by simp [oneC, Value.oneCell']) rfl trivial ?_
        intro H8 hn8
        refine ⟨trivial, ?_⟩
        have hs8 := hn8.size
        have hh8 := hh7.keep (S := Non) hn8.keep (fun _ h => h)
        refine x_append (by rfl) (by rfl) (by rfl) rfl rfl rfl hh8 (isSl_some (Nat.le_refl _) (by omega)) (m := 1) (cx := [.bool hv]) rfl (hn8.blk.cels 0 1 (by simp)) (by simp [oneC, Value.oneCell']) (by omega) rfl trivial ?_
        intro vh' H9 hap9
        refine ⟨trivial, ?_⟩
        have hin5 : ∀ z, H5.size ≤ z → G5 z = 0 ∧ W z = 0 ∧ H.size ≤ z := fun z hz => ⟨hD5'.mine.bu.gin.off hz, hD5'.ref.win.off hz, by have := hD5'.mine.keep.size; omega⟩
        have hD9 : Duo H G5 W H9 b 5000 c (t.put [] p) l0 := (((hD5'.keepN hn6.keep).keep hap7.keep (fun z e => by rw [e.1]; exact hR6.qo (by have := e.2; omega))).keepN hn8.keep).keep hap9.keep (fun z e => by rw [e.1]; exact hR6.qh (by have := e.2; omega))
        have hrl1 : ((recs l0 l2).take (i + 1)).length = i + 1 := by rw [List.length_take, recs_len]; omega
        have ho9 := (hap7.own.keep (S := Non) hn8.keep (fun _ h => h)).keep hap9.keep (fun hc e => hne7 hc (by have := e.2; omega) e.1)
        have hR9 : Recs (fun z => G5 z = 0 ∧ W z = 0 ∧ H.size ≤ z) H9 vo' vh' ((recs l0 l2).take (i + 1)) := by
          refine ⟨?_, ?_, ?_, ?_, ?_⟩
          · rw [hrl1, recs_take hp, ← hov, ← hhv]; exact ho9
          · rw [hrl1, recs_take hp, ← hov, ← hhv]; exact hap9.own
          · exact App.sep (Q := fun z => G5 z = 0 ∧ W z = 0 ∧ H.size ≤ z) hap7 hR6.qo (fun z hz => hin5 z (by omega))
          · exact App.sep (Q := fun z => G5 z = 0 ∧ W z = 0 ∧ H.size ≤ z) hap9 hR6.qh (fun z hz => hin5 z (by omega))
          · exact fun h1 => App.sep (Q := fun z => sb vo' ≠ z) hap9 (fun hch => hne7 h1 hch) (fun z hz e => by have := (hap7.own.keep (S := Non) hn8.keep (fun _ h => h)).lt h1; omega)
        repeat (first | refine za ?_ | refine zb ?_ | refine zc ?_ | refine zd ?_ | refine zg ?_ | refine zj ?_ | refine zl ?_ | refine zm ?_ | refine zn ?_ | refine zo ?_ | refine zr ?_ | refine zs ?_ | refine zt ?_ | refine zu ?_ | refine zv ?_ | refine zw ?_ | refine zx ?_ | refine zy ?_ | refine zz ?_ | refine zza ?_ | refine zzb ?_ | refine zzc ?_ | refine zzd ?_ | refine zze ?_ | refine zzf ?_ | refine zzg ?_)
        exact nw_round (i + 1, vo', vh') (by repeat (first | exact True.intro | refine ⟨rfl, ?_⟩)) ⟨by show i + 1 ≤ _; omega, ⟨G5, W, _, hD9, htp5, by show (t.put [] p).size ≤ 1600 + (i + 1) * 29; omega, hR9⟩⟩ (by show l2.length - (i + 1) < l2.length - i; omega)
      · have hie : i = l2.length := by omega
        subst hie
        rw [List.take_of_length_le (by rw [recs_len]; exact Nat.le_refl _)] at hR
        repeat (first | refine za ?_ | refine zb ?_ | refine zc ?_ | refine zd ?_ | refine zg ?_ | refine zj ?_ | refine zl ?_ | refine zm ?_ | refine zn ?_ | refine zo ?_ | refine zr ?_ | refine zs ?_ | refine zt ?_ | refine zu ?_ | refine zv ?_ | refine zw ?_ | refine zx ?_ | refine zy ?_ | refine zz ?_ | refine zza ?_ | refine zzb ?_ | refine zzc ?_ | refine zzd ?_ | refine zze ?_ | refine zzf ?_ | refine zzg ?_)
        refine cw_loop (fun j : Nat => [(1, vb), (5, ptr c 0), (6, ptr b 0), (7, vo), (8, vh), (13, .int .i64 ((j : Int) - 1))]) (fun j H' => j ≤ l2.length ∧ UndA H H' b c l0 l2 j (40 - j) vo vh (recs l0 l2)) (fun j => j) l2.length (by repeat (first | exact True.intro | refine ⟨rfl, ?_⟩)) ⟨Nat.le_refl _, ⟨G, W, t, hD, htp, by omega, hR⟩⟩ ?_
        clear hD htp hsz hR hct hct2
        rintro j H5 ⟨hj, ⟨G, W, t, hD, htp, hsz, hR⟩⟩
        have hct := hD.mine.bu.len
        rw [htp] at hct
        have hct2 := stepsL_len l0 l2 j
        have hrl := recs_len l0 l2
        have sO := hR.o.sl
        have sVh := hR.h.sl
        rw [hrl] at sO sVh
        repeat (first | refine za ?_ | refine zb ?_ | refine zc ?_ | refine zd ?_ | refine zg ?_ | refine zj ?_ | refine zl ?_ | refine zm ?_ | refine zn ?_ | refine zo ?_ | refine zr ?_ | refine zs ?_ | refine zt ?_ | refine zu ?_ | refine zv ?_ | refine zw ?_ | refine zx ?_ | refine zy ?_ | refine zz ?_ | refine zza ?_ | refine zzb ?_ | refine zzc ?_ | refine zzd ?_ | refine zze ?_ | refine zzf ?_ | refine zzg ?_)
        refine cw_cond rfl (fun hj0 => ?_) (fun hj0 => ?_) <;> (try simp at hj0)
        · obtain ⟨i, rfl⟩ : ∃ i, j = i + 1 := ⟨j - 1, by omega⟩
          have ei : ((i + 1 : Nat) : Int) - 1 = (i : Int) := by omega
          rw [ei]
          obtain ⟨p, hp⟩ := getp (l := l2) (j := i) (by omega)
          obtain ⟨k0, d1, d2, d3⟩ := hB.at_ i p hp
          have a1 := hD.mine.keep.cel d1 (fun h => h)
          have a2 := hD.mine.keep.cel d2 (fun h => h)
          have a3 := d3.keepN hD.mine.keep
          have hpl := hk2 p (List.mem_of_getElem? hp)
          have hW := hD.mine.bu.wf
          have hrs := stepsL_rises (l2 := l2) hr0 i
          rw [stepsL_succ hp] at htp
          obtain ⟨ov, hov⟩ : ∃ ov, ov = (getM (stepsL l0 l2 i) p.1).getD 0 := ⟨_, rfl⟩
          obtain ⟨hv, hhv⟩ : ∃ hv, hv = there (stepsL l0 l2 i) p.1 := ⟨_, rfl⟩
          have qo : cel H5 (sb vo) (so vo + i) = some (.int .u64 ov) := Cels.at? hR.o.cels (by rw [List.getElem?_map, recs_get hp, hov]; rfl)
          have qh : cel H5 (sb vh) (so vh + i) = some (.bool hv) := Cels.at? hR.h.cels (by rw [List.getElem?_map, recs_get hp, hhv]; rfl)
          repeat (first | refine za ?_ | refine zb ?_ | refine zc ?_ | refine zd ?_ | refine zg ?_ | refine zj ?_ | refine zl ?_ | refine zm ?_ | refine zn ?_ | refine zo ?_ | refine zr ?_ | refine zs ?_ | refine zt ?_ | refine zu ?_ | refine zv ?_ | refine zw ?_ | refine zx ?_ | refine zy ?_ | refine zz ?_ | refine zza ?_ | refine zzb ?_ | refine zzc ?_ | refine zzd ?_ | refine zze ?_ | refine zzf ?_ | refine zzg ?_)
          refine x_load rfl rfl (hpmt (qh)) rfl trivial ?_
          repeat (first | refine za ?_ | refine zb ?_ | refine zc ?_ | refine zd ?_ | refine zg ?_ | refine zj ?_ | refine zl ?_ | refine zm ?_ | refine zn ?_ | refine zo ?_ | refine zr ?_ | refine zs ?_ | refine zt ?_ | refine zu ?_ | refine zv ?_ | refine zw ?_ | refine zx ?_ | refine zy ?_ | refine zz ?_ | refine zza ?_ | refine zzb ?_ | refine zzc ?_ | refine zzd ?_ | refine zze ?_ | refine zzf ?_ | refine zzg ?_)
          refine cw_cond rfl (fun hhad => ?_) (fun hhad => ?_) <;> (try simp at hhad)
          · rw [hhad] at hhv
            have hkr := Keep.refl Non H5
            repeat (first | refine za ?_ | refine zb ?_ | refine zc ?_ | refine zd ?_ | refine zj ?_ | refine zl ?_ | refine zm ?_ | refine zn ?_ | refine zo ?_ | refine zr ?_ | refine zs ?_ | refine zt ?_ | refine zu ?_ | refine zv ?_ | refine zw ?_ | refine zx ?_ | refine zy ?_ | refine zz ?_ | refine zza ?_ | refine zzb ?_ | refine zzc ?_ | refine zze ?_ | refine zzf ?_ | refine zzg ?_)
            refine cw_held (fun _ => Keep Non H5) ⟨[10], [(5, 0), (9, 0)]⟩ (.op 0 (.op 1 (.op 2 (.op 3 (.op 4 (.op 5 (.op 6 (.op 7 (.op 8 (.op 9 (.op 10 (.nil)))))))))))) panicOk_body mixed (by kernel_rfl) ?_
            repeat (first | refine za ?_ | refine zb ?_ | refine zc ?_ | refine zd ?_ | refine zj ?_ | refine zl ?_ | refine zm ?_ | refine zn ?_ | refine zo ?_ | refine zr ?_ | refine zs ?_ | refine zt ?_ | refine zu ?_ | refine zv ?_ | refine zw ?_ | refine zx ?_ | refine zy ?_ | refine zz ?_ | refine zza ?_ | refine zzb ?_ | refine zzc ?_ | refine zzd ?_ | refine zze ?_ | refine zzf ?_ | refine zzg ?_)
            refine x_load rfl rfl (hpmk rfl (fun _ hk => hk.cel a1 (fun h => h))) rfl (okq_load rfl rfl (by assumption)) ?_
            repeat (first | refine za ?_ | refine zb ?_ | refine zc ?_ | refine zd ?_ | refine zj ?_ | refine zl ?_ | refine zm ?_ | refine zn ?_ | refine zo ?_ | refine zr ?_ | refine zs ?_ | refine zt ?_ | refine zu ?_ | refine zv ?_ | refine zw ?_ | refine zx ?_ | refine zy ?_ | refine zz ?_ | refine zza ?_ | refine zzb ?_ | refine zzc ?_ | refine zzd ?_ | refine zze ?_ | refine zzf ?_ | refine zzg ?_)
            refine x_load rfl rfl (hpmk rfl (fun _ hk => hk.cel qo (fun h => h))) rfl (okq_load rfl rfl (by assumption)) ?_
            repeat (first | refine za ?_ | refine zb ?_ | refine zc ?_ | refine zd ?_ | refine zj ?_ | refine zl ?_ | refine zm ?_ | refine zn ?_ | refine zo ?_ | refine zr ?_ | refine zs ?_ | refine zt ?_ | refine zu ?_ | refine zv ?_ | refine zw ?_ | refine zx ?_ | refine zy ?_ | refine zz ?_ | refine zza ?_ | refine zzb ?_ | refine zzc ?_ | refine zzd ?_ | refine zze ?_ | refine zzf ?_ | refine zzg ?_)
            refine x_call rfl rfl rfl ⟨rfl, rfl⟩ (mine_put ov hD.mine (by omega) a3 (fun hne => hD.mine.off (d3.lt hne)) (by omega) (by omega)) ?_
            rintro _ H6 ⟨rfl, hk6, G6, hE6, hM6⟩
            refine ⟨okm_free (fun c => by cases c <;> kernel_rfl), ?_⟩
            have hD6 := hD.turnG hk6 hE6 hM6
            have hR6 := hR.keep (Q' := fun z => G6 z = 0 ∧ W z = 0 ∧ H.size ≤ z) hk6 (fun z hz e => ⟨fun h => h e.1, hE6.zero hz e.1, e.2⟩)
            have hsz6 := (BT.put_size t (w := []) (p := (p.1, ov)) hW (begins_nil' _) (show p.1.length ≤ 65535 by omega)).1
            simp only [List.length_nil] at hsz6
            have htp6 : (t.put [] (p.1, ov)).pairs [] = stepsL l0 l2 i := by rw [BT.put_pairs (p := (p.1, ov)) hW.wf0 (begins_nil' _) (show p.1.length ≤ 65535 by omega), htp, hov]; exact undo_put hrs hhv.symm
            repeat (first | refine za ?_ | refine zb ?_ | refine zc ?_ | refine zd ?_ | refine zj ?_ | refine zl ?_ | refine zm ?_ | refine zn ?_ | refine zo ?_ | refine zr ?_ | refine zs ?_ | refine zt ?_ | refine zu ?_ | refine zv ?_ | refine zw ?_ | refine zx ?_ | refine zy ?_ | refine zz ?_ | refine zza ?_ | refine zzb ?_ | refine zzc ?_ | refine zzd ?_ | refine zze ?_ | refine zzf ?_ | refine zzg ?_)
            repeat (first | refine za ?_ | refine zb ?_ | refine zc ?_ | refine zd ?_ | refine zg ?_ | refine zj ?_ | refine zl ?_ | refine zm ?_ | refine zn ?_ | refine zo ?_ | refine zr ?_ | refine zs ?_ | refine zt ?_ | refine zu ?_ | refine zv ?_ | refine zw ?_ | refine zx ?_ | refine zy ?_ | refine zz ?_ | refine zza ?_ | refine zzb ?_ | refine zzc ?_ | refine zzd ?_ | refine zze ?_ | refine zzf ?_ | refine zzg ?_)
            exact nw_round i (by repeat (first | exact True.intro | refine ⟨rfl, ?_⟩)) ⟨by omega, ⟨G6, W, _, hD6, htp6, by omega, hR6⟩⟩ (by omega)
          · rw [hhad] at hhv
            repeat (first | refine za ?_ | refine zb ?_ | refine zc ?_ | refine zd ?_ | refine zg ?_ | refine zj ?_ | refine zl ?_ | refine zm ?_ | refine zn ?_ | refine zo ?_ | refine zr ?_ | refine zs ?_ | refine zt ?_ | refine zu ?_ | refine zv ?_ | refine zw ?_ | refine zx ?_ | refine zy ?_ | refine zz ?_ | refine zza ?_ | refine zzb ?_ | refine zzc ?_ | refine zzd ?_ | refine zze ?_ | refine zzf ?_ | refine zzg ?_)
            refine x_load rfl rfl (hpmt (a1)) rfl trivial ?_
            repeat (first | refine za ?_ | refine zb ?_ | refine zc ?_ | refine zd ?_ | refine zg ?_ | refine zj ?_ | refine zl ?_ | refine zm ?_ | refine zn ?_ | refine zo ?_ | refine zr ?_ | refine zs ?_ | refine zt ?_ | refine zu ?_ | refine zv ?_ | refine zw ?_ | refine zx ?_ | refine zy ?_ | refine zz ?_ | refine zza ?_ | refine zzb ?_ | refine zzc ?_ | refine zzd ?_ | refine zze ?_ | refine zzf ?_ | refine zzg ?_)
            refine x_call rfl rfl rfl trivial (mine_drop hD.mine (by omega) a3 (fun hne => hD.mine.off (d3.lt hne))) ?_
            rw [htp, put_there hrs, put_getM hrs]
            rintro _ H6 ⟨rfl, hk6, G6, hE6, hM6⟩
            refine ⟨trivial, ?_⟩
            have hD6 := hD.turnG hk6 hE6 hM6
            have hR6 := hR.keep (Q' := fun z => G6 z = 0 ∧ W z = 0 ∧ H.size ≤ z) hk6 (fun z hz e => ⟨fun h => h e.1, hE6.zero hz e.1, e.2⟩)
            have a2' := hD6.mine.keep.cel d2 (fun h => h)
            have hsz6 := dropT_size t p.1
            have htp6 : (dropT t p.1).pairs [] = stepsL l0 l2 i := by rw [dropT_pairs hW.wf0, htp]; exact undo_drop hrs hhv.symm
            repeat (first | refine za ?_ | refine zb ?_ | refine zc ?_ | refine zd ?_ | refine zg ?_ | refine zj ?_ | refine zl ?_ | refine zm ?_ | refine zn ?_ | refine zo ?_ | refine zr ?_ | refine zs ?_ | refine zt ?_ | refine zu ?_ | refine zv ?_ | refine zw ?_ | refine zx ?_ | refine zy ?_ | refine zz ?_ | refine zza ?_ | refine zzb ?_ | refine zzc ?_ | refine zzd ?_ | refine zze ?_ | refine zzf ?_ | refine zzg ?_)
            refine x_load rfl rfl (hpmt (a2')) rfl trivial ?_
            repeat (first | refine za ?_ | refine zb ?_ | refine zc ?_ | refine zd ?_ | refine zg ?_ | refine zj ?_ | refine zl ?_ | refine zm ?_ | refine zn ?_ | refine zo ?_ | refine zr ?_ | refine zs ?_ | refine zt ?_ | refine zu ?_ | refine zv ?_ | refine zw ?_ | refine zx ?_ | refine zy ?_ | refine zz ?_ | refine zza ?_ | refine zzb ?_ | refine zzc ?_ | refine zzd ?_ | refine zze ?_ | refine zzf ?_ | refine zzg ?_)
            refine cw_say 111 (.bool false) rfl (by simp) ?_
            repeat (first | refine za ?_ | refine zb ?_ | refine zc ?_ | refine zd ?_ | refine zg ?_ | refine zj ?_ | refine zl ?_ | refine zm ?_ | refine zn ?_ | refine zo ?_ | refine zr ?_ | refine zs ?_ | refine zt ?_ | refine zu ?_ | refine zv ?_ | refine zw ?_ | refine zx ?_ | refine zy ?_ | refine zz ?_ | refine zza ?_ | refine zzb ?_ | refine zzc ?_ | refine zzd ?_ | refine zze ?_ | refine zzf ?_ | refine zzg ?_)
            exact nw_round i (by repeat (first | exact True.intro | refine ⟨rfl, ?_⟩)) ⟨by omega, ⟨G6, W, _, hD6, htp6, by omega, hR6⟩⟩ (by omega)
        · have hj0' : j = 0 := by omega
          subst hj0'
          have hM := hD.ref.mp
          rw [← stepsL_zero l0 l2, ← htp] at hM
          repeat (first | refine za ?_ | refine zb ?_ | refine zc ?_ | refine zd ?_ | refine zg ?_ | refine zj ?_ | refine zl ?_ | refine zm ?_ | refine zn ?_ | refine zo ?_ | refine zr ?_ | refine zs ?_ | refine zt ?_ | refine zu ?_ | refine zv ?_ | refine zw ?_ | refine zx ?_ | refine zy ?_ | refine zz ?_ | refine zza ?_ | refine zzb ?_ | refine zzc ?_ | refine zzd ?_ | refine zze ?_ | refine zzf ?_ | refine zzg ?_)
          refine x_call rfl rfl rfl trivial (law_right hD.mine.bu (by omega) (by omega) hM) ?_
          rintro _ H6 ⟨hk6, rfl⟩
          refine ⟨trivial, ?_⟩
          repeat (first | refine za ?_ | refine zb ?_ | refine zc ?_ | refine zd ?_ | refine zg ?_ | refine zj ?_ | refine zl ?_ | refine zm ?_ | refine zn ?_ | refine zo ?_ | refine zr ?_ | refine zs ?_ | refine zt ?_ | refine zu ?_ | refine zv ?_ | refine zw ?_ | refine zx ?_ | refine zy ?_ | refine zz ?_ | refine zza ?_ | refine zzb ?_ | refine zzc ?_ | refine zzd ?_ | refine zze ?_ | refine zzf ?_ | refine zzg ?_)
          refine x_call rfl rfl rfl trivial (awake15 _) ?_
          rintro _ Hz ⟨rfl, hkz⟩
          refine ⟨trivial, ?_⟩
          repeat (first | refine za ?_ | refine zb ?_ | refine zc ?_ | refine zd ?_ | refine zg ?_ | refine zj ?_ | refine zl ?_ | refine zm ?_ | refine zn ?_ | refine zo ?_ | refine zr ?_ | refine zs ?_ | refine zt ?_ | refine zu ?_ | refine zv ?_ | refine zw ?_ | refine zx ?_ | refine zy ?_ | refine zz ?_ | refine zza ?_ | refine zzb ?_ | refine zzc ?_ | refine zzd ?_ | refine zze ?_ | refine zzf ?_ | refine zzg ?_)
          exact cw_ret1 rfl rfl ⟨rfl, ((hD.mine.keep.non_trans hk6)).non_trans hkz⟩
end Go.Proofs.Ytaloblomncjgkaa.X
