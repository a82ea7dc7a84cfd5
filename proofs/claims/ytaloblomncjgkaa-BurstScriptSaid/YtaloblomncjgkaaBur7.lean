/- The package burst: drop. -/
import Derived.Test.YtaloblomncjgkaaBur6
namespace Go.Proofs.Ytaloblomncjgkaa.X
open Go Go.Proofs
set_option linter.unusedVariables false
set_option linter.unusedSimpArgs false
set_option maxRecDepth 10000
set_option maxHeartbeats 2000000

theorem BT.drop_some {own : Option Int} {kids : UInt8 → BT} {w k : Bytes} {c : UInt8} (h : k[w.length]? = some c) : (BT.node own kids).drop w k = BT.fewer w (.node own (setF kids c ((kids c).drop (w ++ [c]) k))) := by
  rw [BT.drop, h]
theorem BT.drop_none {own : Option Int} {kids : UInt8 → BT} {w k : Bytes} (h : k[w.length]? = none) : (BT.node own kids).drop w k = BT.fewer w (.node none kids) := by
  rw [BT.drop, h]
/-- what a drop promises -/
def DropOk (L : Lab) (H : Heap) (t : BT) (w k : Bytes) (r : Value) (H' : Heap) : Prop := ∃ L', Keep (Beh L w) H H' ∧ Lab.Ext H.size L L' ∧ L'.In H' ∧ Tv L' H' (t.drop w k) w r

theorem burst_drop {k : Bytes} {vk : Value} : ∀ (t : BT) {w : Bytes} {L : Lab} {b : Nat} {H : Heap}, Tr L H t w b → L.In H → t.Wf w → Bs H vk k → begins k w = true → k.length ≤ 65535 → t.look w k ≠ none → t.count ≤ 100000 →
    Ret Try.prog 61 [ptr b 0, vk] H (fun r H' => DropOk L H t w k r H') := by
  intro t
  induction t with
  | nil => intro w L b H hT; exact hT.elim
  | shelf ps =>
    intro w L b H hT hL hW hK hb hl hno hcn
    have hwl := BT.beg_len hb
    have hr := hW.1.rise
    have h8 := hW.2.2
    have hle := rank_le ps k
    have hth : there ps k = true := by
      rw [there_of_fnd hr]
      have : fnd ps k ≠ none := hno
      cases h : fnd ps k with
      | none => exact absurd h this
      | some v => rfl
    obtain ⟨p, g1, g2, g3⟩ := getM_there.2 hth
    have hlt := (List.getElem?_eq_some_iff.1 g1).1
    have hd : dropM ps k = ps.take (rank ps k) ++ ps.drop (rank ps k + 1) := by unfold dropM; rw [hth]; simp
    obtain ⟨h0, vw, vp, q, h1, h2, h3, h4, h5⟩ := id hT
    have c1 : cel H b 1 = some vp := by rw [h1.cel]; rfl
    have c4 : cel H b 4 = some (.map none) := by rw [h1.cel]; rfl
    have sP := h3.sl
    have cP := sP.cap
    have hql := h5.len
    refine ret_of Try.func61 rfl rfl rfl rfl ?_
    intro w0
    repeat (first | refine za ?_ | refine zb ?_ | refine zc ?_ | refine zg ?_ | refine zj ?_ | refine zl ?_ | refine zr ?_ | refine zs ?_ | refine zt ?_ | refine zv ?_ | refine zw ?_ | refine zx ?_ | refine zy ?_ | refine zz ?_ | refine zza ?_ | refine zzb ?_ | refine zzc ?_ | refine zzd ?_ | refine zzf ?_ | refine zzg ?_)
    refine x_load rfl rfl (hpmt (c4)) rfl trivial ?_
    repeat (first | refine za ?_ | refine zb ?_ | refine zc ?_ | refine zg ?_ | refine zj ?_ | refine zl ?_ | refine zr ?_ | refine zs ?_ | refine zt ?_ | refine zv ?_ | refine zw ?_ | refine zx ?_ | refine zy ?_ | refine zz ?_ | refine zza ?_ | refine zzb ?_ | refine zzc ?_ | refine zzd ?_ | refine zzf ?_ | refine zzg ?_)
    refine x_meqn rfl rfl rfl rfl trivial ?_
    repeat (first | refine za ?_ | refine zb ?_ | refine zc ?_ | refine zg ?_ | refine zj ?_ | refine zl ?_ | refine zr ?_ | refine zs ?_ | refine zt ?_ | refine zv ?_ | refine zw ?_ | refine zx ?_ | refine zy ?_ | refine zz ?_ | refine zza ?_ | refine zzb ?_ | refine zzc ?_ | refine zzd ?_ | refine zzf ?_ | refine zzg ?_)
    refine x_call rfl rfl rfl trivial (burst_at hT hr (by omega) hK) ?_
    rintro _ H1 ⟨hk1, rfl⟩
    refine ⟨trivial, ?_⟩
    have hs1 := hk1.size
    have h31 := h3.keep hk1 (fun _ h => h)
    rw [← hql] at h31
    have c1' := hk1.cel c1 (fun h => h)
    repeat (first | refine za ?_ | refine zb ?_ | refine zc ?_ | refine zg ?_ | refine zj ?_ | refine zl ?_ | refine zr ?_ | refine zs ?_ | refine zt ?_ | refine zv ?_ | refine zw ?_ | refine zx ?_ | refine zy ?_ | refine zz ?_ | refine zza ?_ | refine zzb ?_ | refine zzc ?_ | refine zzd ?_ | refine zzf ?_ | refine zzg ?_)
    refine x_load rfl rfl (hpmt (c1')) rfl trivial ?_
    repeat (first | refine za ?_ | refine zb ?_ | refine zc ?_ | refine zg ?_ | refine zj ?_ | refine zl ?_ | refine zr ?_ | refine zs ?_ | refine zt ?_ | refine zv ?_ | refine zw ?_ | refine zx ?_ | refine zy ?_ | refine zz ?_ | refine zza ?_ | refine zzb ?_ | refine zzc ?_ | refine zzd ?_ | refine zzf ?_ | refine zzg ?_)
    refine x_as 58 (.int .i64 ((rank ps k + 1 : Nat) : Int)) rfl rfl ?_
    refine x_call rfl rfl rfl trivial (slices_Delete (i := rank ps k) h31 (by omega) (by omega) (pcs_oneC h5 fun v b h => isSl_oneC h.1.sl)) ?_
    rintro r H2 ⟨hO2, hk2, e1, e2⟩
    refine ⟨trivial, ?_⟩
    have hs2 := hk2.size
    have hpos : 0 < sc vp := by omega
    have hv := h4 hpos
    have hB2 := (h1.keep hk1 (fun h => h)).keep hk2 (fun e => by rw [e.1, hv] at h0; simp at h0)
    have sR := hO2.sl
    repeat (first | refine za ?_ | refine zb ?_ | refine zc ?_ | refine zg ?_ | refine zj ?_ | refine zl ?_ | refine zr ?_ | refine zs ?_ | refine zt ?_ | refine zv ?_ | refine zw ?_ | refine zx ?_ | refine zy ?_ | refine zz ?_ | refine zza ?_ | refine zzb ?_ | refine zzc ?_ | refine zzd ?_ | refine zzf ?_ | refine zzg ?_)
    refine x_store rfl rfl rfl (isSl_oneC sR) hB2 (by simp) trivial ?_
    intro H3 hB3 hk3 hs3
    refine ⟨trivial, ?_⟩
    have c1'' : cel H3 b 1 = some r := by rw [hB3.cel]; rfl
    have hbv : b ≠ sb vp := fun e => by rw [e, hv] at h0; simp at h0
    have hk13 : Keep (fun z => z = sb vp ∨ z = b) H1 H3 := (hk2.mono (S' := fun z => z = sb vp ∨ z = b) (fun _ _ e => .inl e.1)).step hk3 (fun _ _ e => .inr e)
    have hk03 : Keep (Beh L w) H H3 := (hk1.mono (S' := Beh L w) (fun _ _ h => h.elim)).step hk13 (fun z _ e => by rcases e with e | e; rw [e]; exact ⟨1, w, hv, List.prefix_rfl⟩; rw [e]; exact beh_self_b h0)
    repeat (first | refine za ?_ | refine zb ?_ | refine zc ?_ | refine zg ?_ | refine zj ?_ | refine zl ?_ | refine zr ?_ | refine zs ?_ | refine zt ?_ | refine zv ?_ | refine zw ?_ | refine zx ?_ | refine zy ?_ | refine zz ?_ | refine zza ?_ | refine zzb ?_ | refine zzc ?_ | refine zzd ?_ | refine zzf ?_ | refine zzg ?_)
    refine x_load rfl rfl (hpmt (c1'')) rfl trivial ?_
    repeat (first | refine za ?_ | refine zb ?_ | refine zc ?_ | refine zg ?_ | refine zj ?_ | refine zl ?_ | refine zr ?_ | refine zs ?_ | refine zt ?_ | refine zv ?_ | refine zw ?_ | refine zx ?_ | refine zy ?_ | refine zz ?_ | refine zza ?_ | refine zzb ?_ | refine zzc ?_ | refine zzd ?_ | refine zzf ?_ | refine zzg ?_)
    have hdl : (dropM ps k).length = q.length - 1 := by rw [hd, List.length_append, List.length_take, List.length_drop]; omega
    refine cw_cond rfl (fun hz => ?_) (fun hz => ?_) <;> (try simp at hz)
    · repeat (first | refine za ?_ | refine zb ?_ | refine zc ?_ | refine zg ?_ | refine zj ?_ | refine zl ?_ | refine zr ?_ | refine zs ?_ | refine zt ?_ | refine zv ?_ | refine zw ?_ | refine zx ?_ | refine zy ?_ | refine zz ?_ | refine zza ?_ | refine zzb ?_ | refine zzc ?_ | refine zzd ?_ | refine zzf ?_ | refine zzg ?_)
      refine cw_ret1 rfl rfl ⟨L, hk03, Lab.Ext.refl _ _, hL.mono hk03.size, .inl ⟨?_, rfl⟩⟩
      have : dropM ps k = [] := List.length_eq_zero_iff.1 (by omega)
      unfold BT.drop
      rw [if_pos this]
    · repeat (first | refine za ?_ | refine zb ?_ | refine zc ?_ | refine zg ?_ | refine zj ?_ | refine zl ?_ | refine zr ?_ | refine zs ?_ | refine zt ?_ | refine zv ?_ | refine zw ?_ | refine zx ?_ | refine zy ?_ | refine zz ?_ | refine zza ?_ | refine zzb ?_ | refine zzc ?_ | refine zzd ?_ | refine zzf ?_ | refine zzg ?_)
      have hne : dropM ps k ≠ [] := fun e => by rw [e] at hdl; simp at hdl; omega
      have hdr : (BT.shelf ps).drop w k = .shelf (dropM ps k) := by unfold BT.drop; rw [if_neg hne]
      have hkey : ∀ y, L y = some (0, []) → ¬ (y = sb vp ∨ y = b) := fun y hy e => by
        rcases e with e | e
        · rw [e, hv] at hy; simp at hy
        · rw [e, h0] at hy; simp at hy
      have hpk : Pk (KL L H3) (q.take (rank ps k) ++ q.drop (rank ps k + 1)) (dropM ps k) := by
        rw [hd]
        have ho := h5.mono (K' := KL L H3) fun _ _ hb => (hb.keepN hk1).keep hk13 hkey
        exact (ho.take _).append (ho.drop _)
      refine cw_ret1 rfl rfl ?_
      unfold DropOk
      rw [hdr]
      refine ⟨L, hk03, Lab.Ext.refl _ _, hL.mono hk03.size, .inr ⟨b, rfl, h0, vw, r, _, hB3, (h2.keepN hk1).keep hk13 hkey, ?_, fun _ => by rw [e1]; exact hv, hpk⟩⟩
      rw [hdl]
      exact hO2.keep hk3 (fun _ e => hbv (by rw [← e1]; exact e.symm))
  | node own kids ih =>
    intro w L b H hT hL hW hK hb hl hno hcn
    have hwl := BT.beg_len hb
    have hw5 := hW.1
    obtain ⟨vw, m, f, hN⟩ := hT.nd
    have h5 := hW.2.2
    have c0 : cel H b 0 = some vw := by rw [hN.blk.cel]; rfl
    have c4 : cel H b 4 = some (.map (some m)) := by rw [hN.blk.cel]; rfl
    have sK := hK.sl
    have sW := hN.key.1.sl
    have hpd := BT.drop_pairs (t := .node own kids) (k := k) hW.wf0 hb
    have hge := dropM_length_ge ((BT.node own kids).pairs w) k
    have hle := dropM_length ((BT.node own kids).pairs w) k
    rw [← hpd, BT.pairs_len, BT.pairs_len] at hge hle
    have hw0 := (BT.drop_both (t := .node own kids) hW.wf0 hb).1
    refine ret_of Try.func61 rfl rfl rfl rfl ?_
    intro w0
    repeat (first | refine zb ?_ | refine zx ?_ | refine zy ?_ | refine zz ?_ | refine zzd ?_)
    refine cw_cut (fun _ : Unit => [(0, ptr b 0)]) (fun _ H' => ∃ own' kids' m f L', Nd L' H' own' kids' w b vw m f ∧ Keep (Beh L w) H H' ∧ Lab.Ext H.size L L' ∧ L'.In H' ∧ (BT.node own kids).drop w k = BT.fewer w (.node own' kids') ∧ (BT.node own' kids').Wf0 w) ?_ ?_
    · repeat (first | refine za ?_ | refine zb ?_ | refine zc ?_ | refine zg ?_ | refine zj ?_ | refine zl ?_ | refine zr ?_ | refine zs ?_ | refine zt ?_ | refine zv ?_ | refine zw ?_ | refine zx ?_ | refine zy ?_ | refine zz ?_ | refine zza ?_ | refine zzb ?_ | refine zzc ?_ | refine zzd ?_ | refine zzf ?_ | refine zzg ?_)
      refine x_load rfl rfl (hpmt (c4)) rfl trivial ?_
      repeat (first | refine za ?_ | refine zb ?_ | refine zc ?_ | refine zg ?_ | refine zj ?_ | refine zl ?_ | refine zr ?_ | refine zs ?_ | refine zt ?_ | refine zv ?_ | refine zw ?_ | refine zx ?_ | refine zy ?_ | refine zz ?_ | refine zza ?_ | refine zzb ?_ | refine zzc ?_ | refine zzd ?_ | refine zzf ?_ | refine zzg ?_)
      refine x_meqn rfl rfl rfl rfl trivial ?_
      repeat (first | refine za ?_ | refine zb ?_ | refine zc ?_ | refine zg ?_ | refine zj ?_ | refine zl ?_ | refine zr ?_ | refine zs ?_ | refine zt ?_ | refine zv ?_ | refine zw ?_ | refine zx ?_ | refine zy ?_ | refine zz ?_ | refine zza ?_ | refine zzb ?_ | refine zzc ?_ | refine zzd ?_ | refine zzf ?_ | refine zzg ?_)
      refine x_load rfl rfl (hpmt (c0)) rfl trivial ?_
      repeat (first | refine za ?_ | refine zb ?_ | refine zc ?_ | refine zg ?_ | refine zj ?_ | refine zl ?_ | refine zr ?_ | refine zs ?_ | refine zt ?_ | refine zv ?_ | refine zw ?_ | refine zx ?_ | refine zy ?_ | refine zz ?_ | refine zza ?_ | refine zzb ?_ | refine zzc ?_ | refine zzd ?_ | refine zzf ?_ | refine zzg ?_)
      refine cw_cond rfl (fun hlen => ?_) (fun hlen => ?_) <;> (try simp at hlen)
      · have hc : k[w.length]? = none := List.getElem?_eq_none (by omega)
        repeat (first | refine za ?_ | refine zb ?_ | refine zc ?_ | refine zg ?_ | refine zj ?_ | refine zl ?_ | refine zr ?_ | refine zs ?_ | refine zt ?_ | refine zv ?_ | refine zw ?_ | refine zx ?_ | refine zy ?_ | refine zz ?_ | refine zza ?_ | refine zzb ?_ | refine zzc ?_ | refine zzd ?_ | refine zzf ?_ | refine zzg ?_)
        refine x_store rfl rfl rfl rfl hN.blk (by simp) trivial ?_
        intro H1 hB1 hk1 hs1
        refine ⟨trivial, ?_⟩
        repeat (first | refine za ?_ | refine zb ?_ | refine zc ?_ | refine zg ?_ | refine zj ?_ | refine zl ?_ | refine zr ?_ | refine zs ?_ | refine zt ?_ | refine zv ?_ | refine zw ?_ | refine zx ?_ | refine zy ?_ | refine zz ?_ | refine zza ?_ | refine zzb ?_ | refine zzc ?_ | refine zzd ?_ | refine zzf ?_ | refine zzg ?_)
        refine x_store rfl rfl rfl rfl hB1 (by simp) trivial ?_
        intro H2 hB2 hk2 hs2
        refine ⟨trivial, ?_⟩
        repeat (first | refine za ?_ | refine zb ?_ | refine zc ?_ | refine zg ?_ | refine zj ?_ | refine zl ?_ | refine zr ?_ | refine zs ?_ | refine zt ?_ | refine zv ?_ | refine zw ?_ | refine zx ?_ | refine zy ?_ | refine zz ?_ | refine zza ?_ | refine zzb ?_ | refine zzc ?_ | refine zzd ?_ | refine zzf ?_ | refine zzg ?_)
        have hk02 : Keep (· = b) H H2 := hk1.step hk2 (fun _ _ e => e)
        exact nw_meet () (by repeat (first | exact True.intro | refine ⟨rfl, ?_⟩)) ⟨none, kids, m, f, L, hN.own_ (own' := none) hk02 hB2, hk02.mono (fun y _ e => by rw [e]; exact beh_self_b hN.lb), Lab.Ext.refl _ _, hL.mono (by omega), BT.drop_none hc, hW.wf0⟩
      · obtain ⟨c, hc⟩ : ∃ c, k[w.length]? = some c := ⟨_, List.getElem?_eq_getElem (by omega)⟩
        have hlook : (kids c).look (w ++ [c]) k ≠ none := by
          have : (match k[w.length]? with | none => own | some c => (kids c).look (w ++ [c]) k) ≠ none := by rw [BT.look] at hno; exact hno
          rw [hc] at this
          exact this
        obtain ⟨xk, hf, hTk⟩ : ∃ x, f c = some x ∧ Tr L H (kids c) (w ++ [c]) x := by
          rcases hN.kids c with ⟨_, e⟩ | h
          · rw [e] at hlook; exact absurd rfl hlook
          · exact h
        have hbc := (BT.beg_step hb).1 hc
        have hkc : (kids c).count ≤ (BT.node own kids).count := by
          show _ ≤ _ + sumB _
          have := le_sumB (fun b => (kids b).count) c
          omega
        have hdw := (BT.drop_both (t := kids c) ((hW.2.1 c).wf0) hbc).1
        have hw1 : (BT.node own (setF kids c ((kids c).drop (w ++ [c]) k))).Wf0 w := ⟨hW.1, fun d => by
          by_cases hd : d = c
          · subst hd; rw [setF_at]; exact hdw
          · rw [setF_ne _ _ hd]; exact (hW.2.1 d).wf0⟩
        repeat (first | refine za ?_ | refine zb ?_ | refine zc ?_ | refine zg ?_ | refine zj ?_ | refine zl ?_ | refine zr ?_ | refine zs ?_ | refine zt ?_ | refine zv ?_ | refine zw ?_ | refine zx ?_ | refine zy ?_ | refine zz ?_ | refine zza ?_ | refine zzb ?_ | refine zzc ?_ | refine zzd ?_ | refine zzf ?_ | refine zzg ?_)
        refine x_load rfl rfl (hpmt (c0)) rfl trivial ?_
        repeat (first | refine za ?_ | refine zb ?_ | refine zc ?_ | refine zg ?_ | refine zj ?_ | refine zl ?_ | refine zr ?_ | refine zs ?_ | refine zt ?_ | refine zv ?_ | refine zw ?_ | refine zx ?_ | refine zy ?_ | refine zz ?_ | refine zza ?_ | refine zzb ?_ | refine zzc ?_ | refine zzd ?_ | refine zzf ?_ | refine zzg ?_)
        refine x_load rfl rfl (hpmt (hK.get w.length c hc)) rfl trivial ?_
        repeat (first | refine za ?_ | refine zb ?_ | refine zc ?_ | refine zg ?_ | refine zj ?_ | refine zl ?_ | refine zr ?_ | refine zs ?_ | refine zt ?_ | refine zv ?_ | refine zw ?_ | refine zx ?_ | refine zy ?_ | refine zz ?_ | refine zza ?_ | refine zzb ?_ | refine zzc ?_ | refine zzd ?_ | refine zzf ?_ | refine zzg ?_)
        refine x_load rfl rfl (hpmt (c4)) rfl trivial ?_
        repeat (first | refine za ?_ | refine zb ?_ | refine zc ?_ | refine zg ?_ | refine zj ?_ | refine zl ?_ | refine zr ?_ | refine zs ?_ | refine zt ?_ | refine zv ?_ | refine zw ?_ | refine zx ?_ | refine zy ?_ | refine zz ?_ | refine zza ?_ | refine zzb ?_ | refine zzc ?_ | refine zzd ?_ | refine zzf ?_ | refine zzg ?_)
        refine x_lookup rfl rfl rfl (hpmt hN.kd) rfl trivial ?_
        rw [hf]
        repeat (first | refine za ?_ | refine zb ?_ | refine zc ?_ | refine zg ?_ | refine zj ?_ | refine zl ?_ | refine zr ?_ | refine zs ?_ | refine zt ?_ | refine zv ?_ | refine zw ?_ | refine zx ?_ | refine zy ?_ | refine zz ?_ | refine zza ?_ | refine zzb ?_ | refine zzc ?_ | refine zzd ?_ | refine zzf ?_ | refine zzg ?_)
        refine x_call rfl rfl rfl trivial (ih c hTk hL (hW.2.1 c) hK hbc hl hlook (by omega)) ?_
        rintro v H1 ⟨L1, hk1, hE1, hI1, hT1⟩
        refine ⟨trivial, ?_⟩
        have c4' := hk1.cel c4 (not_beh_kid hN.lb)
        rcases hT1 with ⟨e1, rfl⟩ | ⟨bn, rfl, hT1⟩
        · repeat (first | refine za ?_ | refine zb ?_ | refine zc ?_ | refine zg ?_ | refine zj ?_ | refine zl ?_ | refine zr ?_ | refine zs ?_ | refine zt ?_ | refine zv ?_ | refine zw ?_ | refine zx ?_ | refine zy ?_ | refine zz ?_ | refine zza ?_ | refine zzb ?_ | refine zzc ?_ | refine zzd ?_ | refine zzf ?_ | refine zzg ?_)
          refine x_load rfl rfl (hpmt (c4')) rfl trivial ?_
          repeat (first | refine za ?_ | refine zb ?_ | refine zc ?_ | refine zg ?_ | refine zj ?_ | refine zl ?_ | refine zr ?_ | refine zs ?_ | refine zt ?_ | refine zv ?_ | refine zw ?_ | refine zx ?_ | refine zy ?_ | refine zz ?_ | refine zza ?_ | refine zzb ?_ | refine zzc ?_ | refine zzd ?_ | refine zzf ?_ | refine zzg ?_)
          refine x_delete rfl rfl rfl (hN.kd.keep hk1 (not_beh_kid hN.lm)) rfl trivial ?_
          intro H2 hM2 hk2 hs2
          refine ⟨trivial, ?_⟩
          repeat (first | refine za ?_ | refine zb ?_ | refine zc ?_ | refine zg ?_ | refine zj ?_ | refine zl ?_ | refine zr ?_ | refine zs ?_ | refine zt ?_ | refine zv ?_ | refine zw ?_ | refine zx ?_ | refine zy ?_ | refine zz ?_ | refine zza ?_ | refine zzb ?_ | refine zzc ?_ | refine zzd ?_ | refine zzf ?_ | refine zzg ?_)
          obtain ⟨hN2, hk02⟩ := hN.unkid hk1 hE1 hk2 hM2
          rw [← e1] at hN2
          exact nw_meet () (by repeat (first | exact True.intro | refine ⟨rfl, ?_⟩)) ⟨own, _, m, _, L1, hN2, hk02, hE1, hI1.mono (by omega), BT.drop_some hc, hw1⟩
        · repeat (first | refine za ?_ | refine zb ?_ | refine zc ?_ | refine zg ?_ | refine zj ?_ | refine zl ?_ | refine zr ?_ | refine zs ?_ | refine zt ?_ | refine zv ?_ | refine zw ?_ | refine zx ?_ | refine zy ?_ | refine zz ?_ | refine zza ?_ | refine zzb ?_ | refine zzc ?_ | refine zzd ?_ | refine zzf ?_ | refine zzg ?_)
          refine x_load rfl rfl (hpmt (c4')) rfl trivial ?_
          repeat (first | refine za ?_ | refine zb ?_ | refine zc ?_ | refine zg ?_ | refine zj ?_ | refine zl ?_ | refine zr ?_ | refine zs ?_ | refine zt ?_ | refine zv ?_ | refine zw ?_ | refine zx ?_ | refine zy ?_ | refine zz ?_ | refine zza ?_ | refine zzb ?_ | refine zzc ?_ | refine zzd ?_ | refine zzf ?_ | refine zzg ?_)
          refine x_mapUpdate rfl rfl rfl rfl (hN.kd.keep hk1 (not_beh_kid hN.lm)) trivial ?_
          intro H2 hM2 hk2 hs2
          refine ⟨trivial, ?_⟩
          repeat (first | refine za ?_ | refine zb ?_ | refine zc ?_ | refine zg ?_ | refine zj ?_ | refine zl ?_ | refine zr ?_ | refine zs ?_ | refine zt ?_ | refine zv ?_ | refine zw ?_ | refine zx ?_ | refine zy ?_ | refine zz ?_ | refine zza ?_ | refine zzb ?_ | refine zzc ?_ | refine zzd ?_ | refine zzf ?_ | refine zzg ?_)
          obtain ⟨hN2, hk02⟩ := hN.kid hk1 hE1 hL hT1 hk2 hM2
          exact nw_meet () (by repeat (first | exact True.intro | refine ⟨rfl, ?_⟩)) ⟨own, _, m, _, L1, hN2, hk02, hE1, hI1.mono (by omega), BT.drop_some hc, hw1⟩
    clear f hN c0 c4 m
    rintro _ H1 ⟨own', kids', m, f, L1, hN, hk1, hE1, hI1, hd, hw0'⟩
    have hs1 := hk1.size
    have hfc : (BT.fewer w (.node own' kids')).count = (BT.node own' kids').count := by rw [BT.count_pairs _ w, BT.fewer_pairs, ← BT.count_pairs]
    rw [hd, hfc] at hge hle
    have c0 : cel H1 b 0 = some vw := by rw [hN.blk.cel]; rfl
    repeat (first | refine za ?_ | refine zb ?_ | refine zc ?_ | refine zg ?_ | refine zj ?_ | refine zl ?_ | refine zr ?_ | refine zs ?_ | refine zt ?_ | refine zv ?_ | refine zw ?_ | refine zx ?_ | refine zy ?_ | refine zz ?_ | refine zza ?_ | refine zzb ?_ | refine zzc ?_ | refine zzd ?_ | refine zzf ?_ | refine zzg ?_)
    refine x_call rfl rfl rfl trivial (burst_few hN.tr hI1 (by omega) hw0') ?_
    rintro v H2 hv
    refine ⟨trivial, ?_⟩
    rcases hv with ⟨h4, hk2, rfl⟩ | ⟨h4, L2, hP⟩
    · have s0 : IsSl (.slice none 0 0) 0 := isSl_nil
      repeat (first | refine za ?_ | refine zb ?_ | refine zc ?_ | refine zg ?_ | refine zj ?_ | refine zl ?_ | refine zr ?_ | refine zs ?_ | refine zt ?_ | refine zv ?_ | refine zw ?_ | refine zx ?_ | refine zy ?_ | refine zz ?_ | refine zza ?_ | refine zzb ?_ | refine zzc ?_ | refine zzd ?_ | refine zzf ?_ | refine zzg ?_)
      refine x_slnen rfl rfl rfl s0 rfl trivial ?_
      repeat (first | refine za ?_ | refine zb ?_ | refine zc ?_ | refine zg ?_ | refine zj ?_ | refine zl ?_ | refine zr ?_ | refine zs ?_ | refine zt ?_ | refine zv ?_ | refine zw ?_ | refine zx ?_ | refine zy ?_ | refine zz ?_ | refine zza ?_ | refine zzb ?_ | refine zzc ?_ | refine zzd ?_ | refine zzf ?_ | refine zzg ?_)
      refine cw_ret1 rfl rfl ?_
      unfold DropOk
      rw [hd]
      refine ⟨L1, hk1.step hk2 (fun _ _ h => h.elim), hE1, hI1.mono hk2.size, .inr ⟨b, rfl, ?_⟩⟩
      unfold BT.fewer
      rw [if_neg (by omega)]
      exact (hN.keepN hk2).tr
    · obtain ⟨q, sV, g1, g2, g3⟩ := hP.row
      obtain ⟨g4, g5⟩ := g3 (fun ps => by simp)
      have hlenp := BT.pairs_len (.node own' kids') w
      have hk2 := hP.keep
      have hs2 := hk2.size
      have hnil : snil v = false := by
        cases h : snil v with
        | false => rfl
        | true => have := (snil_len sV h).2; omega
      have c0' := hk2.cel c0 (fun h => h)
      repeat (first | refine za ?_ | refine zb ?_ | refine zc ?_ | refine zg ?_ | refine zj ?_ | refine zl ?_ | refine zr ?_ | refine zs ?_ | refine zt ?_ | refine zv ?_ | refine zw ?_ | refine zx ?_ | refine zy ?_ | refine zz ?_ | refine zza ?_ | refine zzb ?_ | refine zzc ?_ | refine zzd ?_ | refine zzf ?_ | refine zzg ?_)
      refine x_slnen rfl rfl rfl sV rfl trivial ?_
      rw [hnil]
      repeat (first | refine za ?_ | refine zb ?_ | refine zc ?_ | refine zg ?_ | refine zj ?_ | refine zl ?_ | refine zr ?_ | refine zs ?_ | refine zt ?_ | refine zv ?_ | refine zw ?_ | refine zx ?_ | refine zy ?_ | refine zz ?_ | refine zza ?_ | refine zzb ?_ | refine zzc ?_ | refine zzd ?_ | refine zzf ?_ | refine zzg ?_)
      refine x_load rfl rfl (hpmt (c0')) rfl trivial ?_
      repeat (first | refine za ?_ | refine zb ?_ | refine zc ?_ | refine zg ?_ | refine zj ?_ | refine zl ?_ | refine zr ?_ | refine zs ?_ | refine zt ?_ | refine zv ?_ | refine zw ?_ | refine zx ?_ | refine zy ?_ | refine zz ?_ | refine zza ?_ | refine zzb ?_ | refine zzc ?_ | refine zzd ?_ | refine zzf ?_ | refine zzg ?_)
      have hOk : BT.Ok w ((BT.node own' kids').pairs w) := ⟨BT.pairs_rise hw0', fun p hp => (BT.pairs_beg hw0' p hp).1, fun p hp => (BT.pairs_beg hw0' p hp).2⟩
      refine x_call rfl rfl rfl trivial (burst_built (70000 - w.length) (L := L2) (B := H.size) (ps := (BT.node own' kids').pairs w) (by omega) hOk (hN.key.1.keepN hk2) g4 g1 hP.lin (fun hc => ⟨(g5 hc).2, by have := (g5 hc).1; omega⟩) (by omega) (by omega)) ?_
      rintro _ H3 ⟨hk3, bn, L3, rfl, hbn, hE3, hI3, hT3⟩
      refine ⟨trivial, ?_⟩
      repeat (first | refine za ?_ | refine zb ?_ | refine zc ?_ | refine zg ?_ | refine zj ?_ | refine zl ?_ | refine zr ?_ | refine zs ?_ | refine zt ?_ | refine zv ?_ | refine zw ?_ | refine zx ?_ | refine zy ?_ | refine zz ?_ | refine zza ?_ | refine zzb ?_ | refine zzc ?_ | refine zzd ?_ | refine zzf ?_ | refine zzg ?_)
      refine cw_ret1 rfl rfl ?_
      unfold DropOk
      rw [hd]
      refine ⟨L3, hk1.step (hk2.non_trans hk3) (fun _ _ h => h.elim), (hE1.trans (hP.ext.mono (by omega))).trans hE3, hI3, .inr ⟨bn, rfl, ?_⟩⟩
      rw [BT.built_few (by omega)] at hT3
      unfold BT.fewer
      rw [if_pos h4]
      exact hT3
end Go.Proofs.Ytaloblomncjgkaa.X
