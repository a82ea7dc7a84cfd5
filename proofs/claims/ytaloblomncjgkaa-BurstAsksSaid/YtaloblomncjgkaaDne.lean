/- Chapter 15's statements: a put, or a drop, of both. -/
import Derived.Test.YtaloblomncjgkaaDuo
import Derived.Test.YtaloblomncjgkaaBtr4
import Derived.Test.YtaloblomncjgkaaKcl
import Derived.Test.YtaloblomncjgkaaBys
namespace Go.Proofs.Ytaloblomncjgkaa.X
open Go Go.Proofs
set_option linter.unusedVariables false
set_option linter.unusedSimpArgs false
set_option maxRecDepth 10000
set_option maxHeartbeats 4000000

theorem Duo.keep {H0 H H' : Heap} {G W : Role} {b most c : Nat} {t : BT} {l : List Pr} {S : Nat → Prop} (h : Duo H0 G W H b most c t l) (k : Keep S H H') (hS : ∀ z, S z → G z = 0 ∧ W z = 0 ∧ H0.size ≤ z) : Duo H0 G W H' b most c t l :=
  ⟨⟨h.mine.bu.keep k (fun x hx e => hx (hS x e).1), h.mine.from_, h.mine.keep.old k (fun z hz e => by have := (hS z e).2.2; omega)⟩, h.ref.keep k (fun x hx e => hx (hS x e).2.1), h.wfrom, h.off⟩
theorem Role.Ext.zero {G G' : Role} {H H' : Heap} (h : G.Ext G' H H') {z : Nat} (hz : z < H.size) (h0 : G z = 0) : G' z = 0 := by rw [h.old z hz, h0]

section done_
variable {H0 H : Heap} {G W : Role} {b most c : Nat} {t : BT} {vk : Value} {k : Bytes}
/-- what a turn of both leaves -/
def DoneB (H0 : Heap) (b most c n : Nat) (H' : Heap) : Prop := ∃ G' W' t', Duo H0 G' W' H' b most c t' (t'.pairs []) ∧ t'.count ≤ n
theorem law_done (x : Int) (dr : Bool) (hD : Duo H0 G W H b most c t (t.pairs [])) (hc : t.count ≤ 4000) (hm : most ≤ 100000) (hK : Bs H vk k) (hG : k ≠ [] → G (sb vk) = 0) (hkl : k.length ≤ 1000) :
    Ret Try.prog 42 [ptr b 0, ptr c 0, .agg [vk, .int .u64 x, .bool dr].toArray] H (fun v H' => v = .bool true ∧ Keep (fun z => H0.size ≤ z) H H' ∧ DoneB H0 b most c (t.count + 1) H') := by
  have hlen := hD.mine.bu.len
  have hW := hD.mine.bu.wf
  have hsz := hD.mine.bu.size
  refine ret_of Try.func42 rfl rfl rfl rfl ?_
  intro w0
  repeat (first | refine za ?_ | refine zb ?_ | refine zd ?_ | refine zj ?_ | refine zl ?_ | refine zm ?_ | refine zn ?_ | refine zo ?_ | refine zp ?_ | refine zr ?_ | refine zt ?_ | refine zu ?_ | refine zx ?_ | refine zy ?_ | refine zz ?_ | refine zzc ?_ | refine zzd ?_ | refine zzf ?_ | refine zzg ?_)
  refine x_box rfl rfl rfl trivial ?_
  intro H1 hn1
  refine ⟨trivial, ?_⟩
  have hs1 := hn1.size
  have hB5 : Blk H1 H.size [vk, .int .u64 x, .bool dr] := hn1.blk
  have e0 : cel H1 H.size 0 = some vk := by rw [hB5.cel]; rfl
  have e1 : cel H1 H.size 1 = some (.int .u64 x) := by rw [hB5.cel]; rfl
  have e2 : cel H1 H.size 2 = some (.bool dr) := by rw [hB5.cel]; rfl
  have hD1 := hD.keepN hn1.keep
  have hK1 := hK.keepN hn1.keep
  have hkn1 : Keep (fun z => H0.size ≤ z) H H1 := hn1.keep.mono (fun _ _ h => h.elim)
  have hGf : ∀ z, G z ≠ 0 → H0.size ≤ z := hD.mine.from_
  have hcf : H0.size ≤ c := hD.wfrom c hD.ref.wb
  have hGn : G H.size = 0 := hD.mine.bu.gin.off (Nat.le_refl _)
  repeat (first | refine za ?_ | refine zb ?_ | refine zd ?_ | refine zj ?_ | refine zl ?_ | refine zm ?_ | refine zn ?_ | refine zo ?_ | refine zp ?_ | refine zr ?_ | refine zt ?_ | refine zu ?_ | refine zx ?_ | refine zy ?_ | refine zz ?_ | refine zzc ?_ | refine zzd ?_ | refine zzf ?_ | refine zzg ?_)
  refine x_load rfl rfl (hpmt (e2)) rfl trivial ?_
  cases dr with
  | true =>
    repeat (first | refine za ?_ | refine zb ?_ | refine zd ?_ | refine zj ?_ | refine zl ?_ | refine zm ?_ | refine zn ?_ | refine zo ?_ | refine zp ?_ | refine zr ?_ | refine zt ?_ | refine zu ?_ | refine zx ?_ | refine zy ?_ | refine zz ?_ | refine zzc ?_ | refine zzd ?_ | refine zzf ?_ | refine zzg ?_)
    refine x_load rfl rfl (hpmt (e0)) rfl trivial ?_
    repeat (first | refine za ?_ | refine zb ?_ | refine zd ?_ | refine zj ?_ | refine zl ?_ | refine zm ?_ | refine zn ?_ | refine zo ?_ | refine zp ?_ | refine zr ?_ | refine zt ?_ | refine zu ?_ | refine zx ?_ | refine zy ?_ | refine zz ?_ | refine zzc ?_ | refine zzd ?_ | refine zzf ?_ | refine zzg ?_)
    refine x_call rfl rfl rfl trivial (mine_drop hD1.mine (by omega) hK1 hG) ?_
    rintro _ H2 ⟨rfl, hk2, G2, hE2, hM2⟩
    refine ⟨trivial, ?_⟩
    have hD2 := hD1.turnG hk2 hE2 hM2
    have hK2 := hK1.keep hk2 (fun hne e => e (hG hne))
    have e0' := hk2.cel e0 (fun e => e hGn)
    repeat (first | refine za ?_ | refine zb ?_ | refine zd ?_ | refine zj ?_ | refine zl ?_ | refine zm ?_ | refine zn ?_ | refine zo ?_ | refine zp ?_ | refine zr ?_ | refine zt ?_ | refine zu ?_ | refine zx ?_ | refine zy ?_ | refine zz ?_ | refine zzc ?_ | refine zzd ?_ | refine zzf ?_ | refine zzg ?_)
    refine x_load rfl rfl (hpmt (e0')) rfl trivial ?_
    repeat (first | refine za ?_ | refine zb ?_ | refine zd ?_ | refine zj ?_ | refine zl ?_ | refine zm ?_ | refine zn ?_ | refine zo ?_ | refine zp ?_ | refine zr ?_ | refine zt ?_ | refine zu ?_ | refine zx ?_ | refine zy ?_ | refine zz ?_ | refine zzc ?_ | refine zzd ?_ | refine zzf ?_ | refine zzg ?_)
    refine x_call rfl rfl rfl trivial (ref_DropW hD2.ref hK2 (by omega)) ?_
    rintro _ H3 ⟨rfl, hk3, W3, hE3, hM3⟩
    refine ⟨trivial, ?_⟩
    rw [← dropT_pairs hW.wf0] at hM3
    have hD3 := hD2.turnW hk3 hE3 hM3
    have hl3 := hD3.mine.bu.len
    rw [dropT_pairs hW.wf0] at hl3
    have hle3 := dropM_le (t.pairs []) k
    repeat (first | refine za ?_ | refine zb ?_ | refine zd ?_ | refine zj ?_ | refine zl ?_ | refine zm ?_ | refine zn ?_ | refine zo ?_ | refine zp ?_ | refine zr ?_ | refine zt ?_ | refine zu ?_ | refine zx ?_ | refine zy ?_ | refine zz ?_ | refine zzc ?_ | refine zzd ?_ | refine zzf ?_ | refine zzg ?_)
    refine x_true 41 rfl (by simp) ?_
    repeat (first | refine za ?_ | refine zb ?_ | refine zd ?_ | refine zj ?_ | refine zl ?_ | refine zm ?_ | refine zn ?_ | refine zo ?_ | refine zp ?_ | refine zr ?_ | refine zt ?_ | refine zu ?_ | refine zx ?_ | refine zy ?_ | refine zz ?_ | refine zzc ?_ | refine zzd ?_ | refine zzf ?_ | refine zzg ?_)
    exact cw_ret1 rfl rfl ⟨by simp, (hkn1.step hk2 (fun z _ e => hGf z e)).step hk3 (fun z _ e => by rw [e]; exact hcf), _, _, _, hD3, by omega⟩
  | false =>
    obtain ⟨th, hth⟩ : ∃ th, th = there (t.pairs []) k := ⟨_, rfl⟩
    repeat (first | refine za ?_ | refine zb ?_ | refine zd ?_ | refine zj ?_ | refine zl ?_ | refine zm ?_ | refine zn ?_ | refine zo ?_ | refine zp ?_ | refine zr ?_ | refine zt ?_ | refine zu ?_ | refine zx ?_ | refine zy ?_ | refine zz ?_ | refine zzc ?_ | refine zzd ?_ | refine zzf ?_ | refine zzg ?_)
    refine x_call rfl rfl rfl trivial (tree_Most hD1.mine.bu) ?_
    rintro _ _ ⟨rfl, rfl⟩
    refine ⟨trivial, ?_⟩
    repeat (first | refine za ?_ | refine zb ?_ | refine zd ?_ | refine zj ?_ | refine zl ?_ | refine zm ?_ | refine zn ?_ | refine zo ?_ | refine zp ?_ | refine zr ?_ | refine zt ?_ | refine zu ?_ | refine zx ?_ | refine zy ?_ | refine zz ?_ | refine zzc ?_ | refine zzd ?_ | refine zzf ?_ | refine zzg ?_)
    refine x_call rfl rfl rfl trivial (tree_Live hD1.mine.bu) ?_
    rintro _ _ ⟨rfl, rfl⟩
    refine ⟨trivial, ?_⟩
    repeat (first | refine za ?_ | refine zb ?_ | refine zd ?_ | refine zj ?_ | refine zl ?_ | refine zm ?_ | refine zn ?_ | refine zo ?_ | refine zp ?_ | refine zr ?_ | refine zt ?_ | refine zu ?_ | refine zx ?_ | refine zy ?_ | refine zz ?_ | refine zzc ?_ | refine zzd ?_ | refine zzf ?_ | refine zzg ?_)
    refine x_load rfl rfl (hpmt (e0)) rfl trivial ?_
    repeat (first | refine za ?_ | refine zb ?_ | refine zd ?_ | refine zj ?_ | refine zl ?_ | refine zm ?_ | refine zn ?_ | refine zo ?_ | refine zp ?_ | refine zr ?_ | refine zt ?_ | refine zu ?_ | refine zx ?_ | refine zy ?_ | refine zz ?_ | refine zzc ?_ | refine zzd ?_ | refine zzf ?_ | refine zzg ?_)
    refine x_call rfl rfl rfl trivial (ref_Find hD1.ref.mp hK1) ?_
    rintro _ _ ⟨rfl, rfl⟩
    refine ⟨trivial, ?_⟩
    rw [← hth]
    repeat (first | refine za ?_ | refine zb ?_ | refine zd ?_ | refine zj ?_ | refine zl ?_ | refine zm ?_ | refine zn ?_ | refine zo ?_ | refine zp ?_ | refine zr ?_ | refine zt ?_ | refine zu ?_ | refine zx ?_ | refine zy ?_ | refine zz ?_ | refine zzc ?_ | refine zzd ?_ | refine zzf ?_ | refine zzg ?_)
    refine x_load rfl rfl (hpmt (e0)) rfl trivial ?_
    repeat (first | refine za ?_ | refine zb ?_ | refine zd ?_ | refine zj ?_ | refine zl ?_ | refine zm ?_ | refine zn ?_ | refine zo ?_ | refine zp ?_ | refine zr ?_ | refine zt ?_ | refine zu ?_ | refine zx ?_ | refine zy ?_ | refine zz ?_ | refine zzc ?_ | refine zzd ?_ | refine zzf ?_ | refine zzg ?_)
    refine x_call rfl rfl rfl trivial (law_LendBytes hK1 (by omega)) ?_
    rintro vi H2 ⟨hk2, hL2, hF2⟩
    refine ⟨trivial, ?_⟩
    have hD2 := hD1.keepN hk2
    have hs2 := hk2.size
    have hfi : H1.size ≤ sb vi := hF2 (by have := hL2.cap; omega)
    have hli := hL2.lt
    have hGi : G (sb vi) = 0 := hD1.mine.bu.gin.off hfi
    have hWi : W (sb vi) = 0 := hD1.ref.win.off hfi
    have e1' := hk2.cel e1 (fun h => h)
    have e0' := hk2.cel e0 (fun h => h)
    have hK2 := hK1.keepN hk2
    have hh0 : H0.size ≤ H.size := hD.mine.keep.size
    obtain ⟨hps, _⟩ := BT.put_size t (w := []) (p := (k, x)) hW (begins_nil' k) (show k.length ≤ 65535 by omega)
    simp only [List.length_nil] at hps
    repeat (first | refine za ?_ | refine zb ?_ | refine zd ?_ | refine zj ?_ | refine zl ?_ | refine zm ?_ | refine zn ?_ | refine zo ?_ | refine zp ?_ | refine zr ?_ | refine zt ?_ | refine zu ?_ | refine zx ?_ | refine zy ?_ | refine zz ?_ | refine zzc ?_ | refine zzd ?_ | refine zzf ?_ | refine zzg ?_)
    refine x_load rfl rfl (hpmt (e1')) rfl trivial ?_
    repeat (first | refine za ?_ | refine zb ?_ | refine zd ?_ | refine zj ?_ | refine zl ?_ | refine zm ?_ | refine zn ?_ | refine zo ?_ | refine zp ?_ | refine zr ?_ | refine zt ?_ | refine zu ?_ | refine zx ?_ | refine zy ?_ | refine zz ?_ | refine zzc ?_ | refine zzd ?_ | refine zzf ?_ | refine zzg ?_)
    refine x_call rfl rfl rfl trivial (tree_Put x hD2.mine.bu (by omega) hL2.bs (fun _ => hGi)) ?_
    rintro r3 H3 h3
    refine ⟨trivial, ?_⟩
    cases h3 with
    | long h e hk => omega
    | full h hn hmm e hk3 =>
      subst e
      rw [hn] at hth
      subst hth
      have hD3 := hD2.keepN hk3
      have e03 := hk3.cel e0' (fun h => h)
      have hL3 := hL2.keepN hk3
      have hK3 := hK2.keepN hk3
      repeat (first | refine za ?_ | refine zb ?_ | refine zd ?_ | refine zj ?_ | refine zl ?_ | refine zm ?_ | refine zn ?_ | refine zo ?_ | refine zp ?_ | refine zr ?_ | refine zt ?_ | refine zu ?_ | refine zx ?_ | refine zy ?_ | refine zz ?_ | refine zzc ?_ | refine zzd ?_ | refine zzf ?_ | refine zzg ?_)
      refine x_load rfl rfl (hpmt (e03)) rfl trivial ?_
      repeat (first | refine za ?_ | refine zb ?_ | refine zd ?_ | refine zj ?_ | refine zl ?_ | refine zm ?_ | refine zn ?_ | refine zo ?_ | refine zp ?_ | refine zr ?_ | refine zt ?_ | refine zu ?_ | refine zx ?_ | refine zy ?_ | refine zz ?_ | refine zzc ?_ | refine zzd ?_ | refine zzf ?_ | refine zzg ?_)
      refine x_call rfl rfl rfl trivial (law_KeptBytes hL3 hK3) ?_
      rintro _ _ ⟨rfl, rfl⟩
      refine ⟨trivial, ?_⟩
      rw [show (k == k) = true by simp]
      repeat (first | refine za ?_ | refine zb ?_ | refine zd ?_ | refine zj ?_ | refine zl ?_ | refine zm ?_ | refine zn ?_ | refine zo ?_ | refine zp ?_ | refine zr ?_ | refine zt ?_ | refine zu ?_ | refine zx ?_ | refine zy ?_ | refine zz ?_ | refine zzc ?_ | refine zzd ?_ | refine zzf ?_ | refine zzg ?_)
      refine x_call rfl rfl rfl trivial (law_OverBytes hL3.own (by omega)) ?_
      rintro _ H4 ⟨rfl, hk4⟩
      refine ⟨trivial, ?_⟩
      have hD4 := hD3.keep hk4 (fun z e => by rw [e.1]; exact ⟨hGi, hWi, by omega⟩)
      have e04 := hk4.cel e03 (fun e => by have := e.1; omega)
      have sK := hK3.sl
      repeat (first | refine za ?_ | refine zb ?_ | refine zd ?_ | refine zj ?_ | refine zl ?_ | refine zm ?_ | refine zn ?_ | refine zo ?_ | refine zp ?_ | refine zr ?_ | refine zt ?_ | refine zu ?_ | refine zx ?_ | refine zy ?_ | refine zz ?_ | refine zzc ?_ | refine zzd ?_ | refine zzf ?_ | refine zzg ?_)
      refine x_load rfl rfl (hpmt (e04)) rfl trivial ?_
      repeat (first | refine za ?_ | refine zb ?_ | refine zd ?_ | refine zj ?_ | refine zl ?_ | refine zm ?_ | refine zn ?_ | refine zo ?_ | refine zp ?_ | refine zr ?_ | refine zt ?_ | refine zu ?_ | refine zx ?_ | refine zy ?_ | refine zz ?_ | refine zzc ?_ | refine zzd ?_ | refine zzf ?_ | refine zzg ?_)
      refine x_call rfl rfl rfl trivial (ref10_Put4 (n := k.length) (by omega)) ?_
      rintro _ _ ⟨rfl, rfl⟩
      refine ⟨trivial, ?_⟩
      repeat (first | refine za ?_ | refine zb ?_ | refine zd ?_ | refine zj ?_ | refine zl ?_ | refine zm ?_ | refine zn ?_ | refine zo ?_ | refine zp ?_ | refine zr ?_ | refine zt ?_ | refine zu ?_ | refine zx ?_ | refine zy ?_ | refine zz ?_ | refine zzc ?_ | refine zzd ?_ | refine zzf ?_ | refine zzg ?_)
      refine cw_ret1 rfl rfl ⟨?_, ((hkn1.step hk2 (fun _ _ e => e.elim)).step hk3 (fun _ _ e => e.elim)).step hk4 (fun z _ e => by rw [e.1]; omega), _, _, _, hD4, by omega⟩
      congr 1
      exact decide_eq_true (by omega)
    | put h hmm e hk3 G3 hE3 hB3 =>
      subst e
      rw [← hth]
      have hD3 := hD2.turnG hk3 hE3 (hD2.mine.turn hk3 hE3 hB3)
      have e03 := hk3.cel e0' (fun e => e hGn)
      have e13 := hk3.cel e1' (fun e => e hGn)
      have hL3 := hL2.keep hk3 (fun e => e hGi)
      have hK3 := hK2.keep hk3 (fun hne e => e (hG hne))
      have hGi3 : G3 (sb vi) = 0 := hE3.zero hli hGi
      repeat (first | refine za ?_ | refine zb ?_ | refine zd ?_ | refine zj ?_ | refine zl ?_ | refine zm ?_ | refine zn ?_ | refine zo ?_ | refine zp ?_ | refine zr ?_ | refine zt ?_ | refine zu ?_ | refine zx ?_ | refine zy ?_ | refine zz ?_ | refine zzc ?_ | refine zzd ?_ | refine zzf ?_ | refine zzg ?_)
      refine x_load rfl rfl (hpmt (e03)) rfl trivial ?_
      repeat (first | refine za ?_ | refine zb ?_ | refine zd ?_ | refine zj ?_ | refine zl ?_ | refine zm ?_ | refine zn ?_ | refine zo ?_ | refine zp ?_ | refine zr ?_ | refine zt ?_ | refine zu ?_ | refine zx ?_ | refine zy ?_ | refine zz ?_ | refine zzc ?_ | refine zzd ?_ | refine zzf ?_ | refine zzg ?_)
      refine x_call rfl rfl rfl trivial (law_KeptBytes hL3 hK3) ?_
      rintro _ _ ⟨rfl, rfl⟩
      refine ⟨trivial, ?_⟩
      rw [show (k == k) = true by simp]
      repeat (first | refine za ?_ | refine zb ?_ | refine zd ?_ | refine zj ?_ | refine zl ?_ | refine zm ?_ | refine zn ?_ | refine zo ?_ | refine zp ?_ | refine zr ?_ | refine zt ?_ | refine zu ?_ | refine zx ?_ | refine zy ?_ | refine zz ?_ | refine zzc ?_ | refine zzd ?_ | refine zzf ?_ | refine zzg ?_)
      refine x_call rfl rfl rfl trivial (law_OverBytes hL3.own (by omega)) ?_
      rintro _ H4 ⟨rfl, hk4⟩
      refine ⟨trivial, ?_⟩
      have hD4 := hD3.keep hk4 (fun z e => by rw [e.1]; exact ⟨hGi3, hWi, by omega⟩)
      have e04 := hk4.cel e03 (fun e => by have := e.1; omega)
      have e14 := hk4.cel e13 (fun e => by have := e.1; omega)
      have hK4 := hK3.keep hk4 (fun hne e => by have := hK.lt hne; have := e.1; omega)
      repeat (first | refine za ?_ | refine zb ?_ | refine zd ?_ | refine zj ?_ | refine zl ?_ | refine zm ?_ | refine zn ?_ | refine zo ?_ | refine zp ?_ | refine zr ?_ | refine zt ?_ | refine zu ?_ | refine zx ?_ | refine zy ?_ | refine zz ?_ | refine zzc ?_ | refine zzd ?_ | refine zzf ?_ | refine zzg ?_)
      refine x_load rfl rfl (hpmt (e04)) rfl trivial ?_
      repeat (first | refine za ?_ | refine zb ?_ | refine zd ?_ | refine zj ?_ | refine zl ?_ | refine zm ?_ | refine zn ?_ | refine zo ?_ | refine zp ?_ | refine zr ?_ | refine zt ?_ | refine zu ?_ | refine zx ?_ | refine zy ?_ | refine zz ?_ | refine zzc ?_ | refine zzd ?_ | refine zzf ?_ | refine zzg ?_)
      refine x_load rfl rfl (hpmt (e14)) rfl trivial ?_
      repeat (first | refine za ?_ | refine zb ?_ | refine zd ?_ | refine zj ?_ | refine zl ?_ | refine zm ?_ | refine zn ?_ | refine zo ?_ | refine zp ?_ | refine zr ?_ | refine zt ?_ | refine zu ?_ | refine zx ?_ | refine zy ?_ | refine zz ?_ | refine zzc ?_ | refine zzd ?_ | refine zzf ?_ | refine zzg ?_)
      refine x_call rfl rfl rfl trivial (ref_PutW x hD4.ref hK4 (by omega) (by omega)) ?_
      rintro _ H5 ⟨rfl, hk5, W5, hE5, hM5⟩
      refine ⟨trivial, ?_⟩
      rw [← hth]
      rw [← BT.put_pairs (p := (k, x)) hW.wf0 (begins_nil' _) (show k.length ≤ 65535 by omega)] at hM5
      have hD5 := hD4.turnW hk5 hE5 hM5
      have hcn5 := BT.put_cnt (p := (k, x)) hW.wf0 (begins_nil' _) (show k.length ≤ 65535 by omega)
      have hle5 : (t.put [] (k, x)).count ≤ t.count + 1 := by rw [hcn5]; split <;> omega
      repeat (first | refine za ?_ | refine zb ?_ | refine zd ?_ | refine zj ?_ | refine zl ?_ | refine zm ?_ | refine zn ?_ | refine zo ?_ | refine zp ?_ | refine zr ?_ | refine zt ?_ | refine zu ?_ | refine zx ?_ | refine zy ?_ | refine zz ?_ | refine zzc ?_ | refine zzd ?_ | refine zzf ?_ | refine zzg ?_)
      refine x_true 115 rfl (by simp) ?_
      repeat (first | refine za ?_ | refine zb ?_ | refine zd ?_ | refine zj ?_ | refine zl ?_ | refine zm ?_ | refine zn ?_ | refine zo ?_ | refine zp ?_ | refine zr ?_ | refine zt ?_ | refine zu ?_ | refine zx ?_ | refine zy ?_ | refine zz ?_ | refine zzc ?_ | refine zzd ?_ | refine zzf ?_ | refine zzg ?_)
      refine x_true 120 rfl (by simp) ?_
      repeat (first | refine za ?_ | refine zb ?_ | refine zd ?_ | refine zj ?_ | refine zl ?_ | refine zm ?_ | refine zn ?_ | refine zo ?_ | refine zp ?_ | refine zr ?_ | refine zt ?_ | refine zu ?_ | refine zx ?_ | refine zy ?_ | refine zz ?_ | refine zzc ?_ | refine zzd ?_ | refine zzf ?_ | refine zzg ?_)
      exact cw_ret1 rfl rfl ⟨by simp, (((hkn1.step hk2 (fun _ _ e => e.elim)).step hk3 (fun z _ e => hGf z e)).step hk4 (fun z _ e => by rw [e.1]; omega)).step hk5 (fun z _ e => by rw [e]; exact hcf), _, _, _, hD5, hle5⟩
end done_
end Go.Proofs.Ytaloblomncjgkaa.X
