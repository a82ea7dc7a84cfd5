/- The package burst: a tree's Drop. -/
import Derived.Test.YtaloblomncjgkaaBtr2
namespace Go.Proofs.Ytaloblomncjgkaa.X
open Go Go.Proofs
set_option linter.unusedVariables false
set_option linter.unusedSimpArgs false
set_option maxRecDepth 10000
set_option maxHeartbeats 2000000

/-- what a drop of a tree's key does -/
def DropB (G : Role) (H : Heap) (b most : Nat) (t : BT) (k : Bytes) (r : Value) (H' : Heap) : Prop :=
  r = .tuple #[.int .u64 ((getM (t.pairs []) k).getD 0), .bool (there (t.pairs []) k)] ∧
    ((there (t.pairs []) k = false ∧ Keep Non H H') ∨ (there (t.pairs []) k = true ∧ Keep (fun z => G z ≠ 0) H H' ∧ ∃ G', G.Ext G' H H' ∧ Bu G' H' b most (t.drop [] k)))
section drop
variable {G : Role} {H : Heap} {b most : Nat} {t : BT} {vk : Value} {k : Bytes}
theorem tree_Drop (hB : Bu G H b most t) (hc : t.count ≤ 5000) (hK : Bs H vk k) (hoff : k ≠ [] → G (sb vk) = 0) : Ret Try.prog 31 [ptr b 0, vk] H (fun r H' => DropB G H b most t k r H') := by
  have hlen := hB.len
  have hmay := hB.may
  have hrise := hB.rise
  have hms := hB.most_
  have hsz := hB.size
  refine ret_of Try.func31 rfl rfl rfl rfl ?_
  intro w0
  repeat (first | refine za ?_ | refine zb ?_ | refine zo ?_ | refine zr ?_ | refine zs ?_ | refine zt ?_ | refine zx ?_ | refine zy ?_ | refine zz ?_ | refine zzc ?_ | refine zzd ?_ | refine zzf ?_ | refine zzg ?_)
  refine x_call rfl rfl rfl trivial (tree_Get hB hc hK) ?_
  rintro _ H1 ⟨hk1, rfl⟩
  refine ⟨trivial, ?_⟩
  have hs1 := hk1.size
  rcases hth : there (t.pairs []) k with _ | _
  · repeat (first | refine za ?_ | refine zb ?_ | refine zo ?_ | refine zr ?_ | refine zs ?_ | refine zt ?_ | refine zx ?_ | refine zy ?_ | refine zz ?_ | refine zzc ?_ | refine zzd ?_ | refine zzf ?_ | refine zzg ?_)
    refine cw_ret2 rfl rfl rfl ?_
    unfold DropB
    rw [hth, getM_there.1 hth]
    exact ⟨rfl, .inl ⟨rfl, hk1⟩⟩
  · obtain ⟨p, hp1, hp2, hp3⟩ := getM_there.2 hth
    have hl : k.length ≤ 65535 := by have := hmay p (List.mem_of_getElem? hp1); rw [hp2] at this; exact this
    have hlook : t.look [] k ≠ none := by rw [BT.look_there hB.wf.wf0 k, hth, hp3]; simp
    have hB1 := hB.keepN hk1
    obtain ⟨K, L, mb, vr, r1, r2, r3, r4, r5, r6⟩ := hB1.row
    obtain ⟨rb, hrb, hT1⟩ : ∃ rb, vr = ptr rb 0 ∧ Tr L H1 t [] rb := by
      rcases r3 with ⟨e, _⟩ | ⟨rb, e, h⟩
      · rw [e] at hlook; exact absurd rfl hlook
      · exact ⟨rb, e, h⟩
    subst hrb
    have c2 : cel H1 b 2 = some (ptr rb 0) := by rw [r1.cel]; rfl
    have hbl : b < H.size := hB.gin b (by rw [hB.gb]; omega)
    have hLin : L.In H := fun x hx => by
      have := r6 x hx
      exact hB.gin x (by omega)
    have hbL : L b = none := by
      by_cases h : L b = none
      · exact h
      · have := r6 b h; rw [hB.gb] at this; omega
    have hK1 := hK.keepN hk1
    repeat (first | refine za ?_ | refine zb ?_ | refine zo ?_ | refine zr ?_ | refine zs ?_ | refine zt ?_ | refine zx ?_ | refine zy ?_ | refine zz ?_ | refine zzc ?_ | refine zzd ?_ | refine zzf ?_ | refine zzg ?_)
    refine x_load rfl rfl (hpmt (c2)) rfl trivial ?_
    repeat (first | refine za ?_ | refine zb ?_ | refine zo ?_ | refine zr ?_ | refine zs ?_ | refine zt ?_ | refine zx ?_ | refine zy ?_ | refine zz ?_ | refine zzc ?_ | refine zzd ?_ | refine zzf ?_ | refine zzg ?_)
    refine x_call rfl rfl rfl trivial (burst_drop t hT1 (hLin.mono hs1) hB.wf hK1 (beg_nil_ k) hl hlook (by omega)) ?_
    rintro v H2 ⟨L2, hk2, hE2, hI2, hT2⟩
    refine ⟨trivial, ?_⟩
    have hs2 := hk2.size
    have r1b := r1.keep hk2 (fun e => e.some hbL)
    have hov : oneC v = true := by rcases hT2 with ⟨_, rfl⟩ | ⟨_, rfl, _⟩ <;> rfl
    repeat (first | refine za ?_ | refine zb ?_ | refine zo ?_ | refine zr ?_ | refine zs ?_ | refine zt ?_ | refine zx ?_ | refine zy ?_ | refine zz ?_ | refine zzc ?_ | refine zzd ?_ | refine zzf ?_ | refine zzg ?_)
    refine x_store rfl rfl rfl hov r1b (by simp) trivial ?_
    intro H3 hB3 hk3 hs3
    refine ⟨trivial, ?_⟩
    have d2 : cel H3 b 2 = some v := by rw [hB3.cel]; rfl
    have hE02 : Lab.Ext H.size L L2 := hE2.mono hs1
    have hbL2 : L2 b = none := by rw [hE02.low b hbl]; exact hbL
    have hT3 : Tv L2 H3 (t.drop [] k) [] v := hT2.keep hk3 (fun z hz e => by rw [e, hbL2] at hz; cases hz) (fun z hz e => by have := hz.some; rw [e] at this; exact this hbL2)
    have hds := BT.drop_size t [] k
    repeat (first | refine za ?_ | refine zb ?_ | refine zo ?_ | refine zr ?_ | refine zs ?_ | refine zt ?_ | refine zx ?_ | refine zy ?_ | refine zz ?_ | refine zzc ?_ | refine zzd ?_ | refine zzf ?_ | refine zzg ?_)
    refine x_load rfl rfl (hpmt (d2)) rfl trivial ?_
    repeat (first | refine za ?_ | refine zb ?_ | refine zo ?_ | refine zr ?_ | refine zs ?_ | refine zt ?_ | refine zx ?_ | refine zy ?_ | refine zz ?_ | refine zzc ?_ | refine zzd ?_ | refine zzf ?_ | refine zzg ?_)
    refine x_call rfl rfl rfl trivial (burst_size (t.drop [] k) hT3 (by omega)) ?_
    rintro _ H4 ⟨hk4, rfl⟩
    refine ⟨trivial, ?_⟩
    have hs4 := hk4.size
    have hB4 := hB3.keep hk4 (fun h => h)
    repeat (first | refine za ?_ | refine zb ?_ | refine zo ?_ | refine zr ?_ | refine zs ?_ | refine zt ?_ | refine zx ?_ | refine zy ?_ | refine zz ?_ | refine zzc ?_ | refine zzd ?_ | refine zzf ?_ | refine zzg ?_)
    refine x_store rfl rfl rfl rfl hB4 (by simp) trivial ?_
    intro H5 hB5 hk5 hs5
    refine ⟨trivial, ?_⟩
    have d0 : cel H5 b 0 = some (ptr mb 0) := by rw [hB5.cel]; rfl
    have hk15 : Keep (fun z => Beh L [] z ∨ z = b) H1 H5 := (((hk2.mono (S' := fun z => Beh L [] z ∨ z = b) (fun _ _ e => .inl e)).step hk3 (fun _ _ e => .inr e)).step hk4 (fun _ _ e => e.elim)).step hk5 (fun _ _ e => .inr e)
    have hoffL : ∀ z, G z ≠ 3 → z ≠ b → ¬ (Beh L [] z ∨ z = b) := fun z hg hzb e => by
      rcases e with e | e
      · exact hg (r6 z e.some)
      · exact hzb e
    have hMo5 : Mo K H5 mb (t.pairs []) := r2.keep hk15 (fun z hz => by
      have h1 := r5 z hz
      exact hoffL z (by omega) (fun e => by rw [e, hB.gb] at h1; omega))
    have hK5 : Bs H5 vk k := hK1.keep hk15 (fun hne => by
      have h1 := hoff hne
      exact hoffL _ (by omega) (fun e => by rw [e, hB.gb] at h1; omega))
    repeat (first | refine za ?_ | refine zb ?_ | refine zo ?_ | refine zr ?_ | refine zs ?_ | refine zt ?_ | refine zx ?_ | refine zy ?_ | refine zz ?_ | refine zzc ?_ | refine zzd ?_ | refine zzf ?_ | refine zzg ?_)
    refine x_load rfl rfl (hpmt (d0)) rfl trivial ?_
    repeat (first | refine za ?_ | refine zb ?_ | refine zo ?_ | refine zr ?_ | refine zs ?_ | refine zt ?_ | refine zx ?_ | refine zy ?_ | refine zz ?_ | refine zzc ?_ | refine zzd ?_ | refine zzf ?_ | refine zzg ?_)
    refine x_call rfl rfl rfl trivial (model_Drop hMo5 hrise (by omega) hK5) ?_
    rintro _ H6 ⟨rfl, hk6, hM6⟩
    refine ⟨trivial, ?_⟩
    have hs6 := hk6.size
    have hKin : ∀ z, K z ≠ 0 → z < H.size := fun z hz => hB.gin z (by have := r5 z hz; omega)
    have hL2lt : ∀ z, z < H.size → L2 z = L z := fun z hz => hE02.low z hz
    have hmut : ∀ z, MutM K z → G z = 2 := fun z e => r5 z (by rcases e with e | e <;> omega)
    have hKL2 : ∀ z, K z ≠ 0 → L2 z = none := fun z hz => by
      rw [hL2lt z (hKin z hz)]
      by_cases h : L z = none
      · exact h
      · have h1 := r6 z h; have h2 := r5 z hz; omega
    have hkey6 : ∀ z, L2 z ≠ none → ¬ MutM K z := fun z hz e => hz (hKL2 z (by rcases e with e | e <;> omega))
    have hT5 : Tv L2 H5 (t.drop [] k) [] v := (hT3.keepN hk4).keep hk5 (fun z hz e => by rw [e, hbL2] at hz; cases hz) (fun z hz e => by have := hz.some; rw [e] at this; exact this hbL2)
    have hT6 : Tv L2 H6 (t.drop [] k) [] v := hT5.keep hk6 (fun z hz => hkey6 z (by rw [hz]; simp)) (fun z hz => hkey6 z hz.some)
    have hB6 := hB5.keep hk6 (fun e => by have := hmut b e; rw [hB.gb] at this; omega)
    repeat (first | refine za ?_ | refine zb ?_ | refine zo ?_ | refine zr ?_ | refine zs ?_ | refine zt ?_ | refine zx ?_ | refine zy ?_ | refine zz ?_ | refine zzc ?_ | refine zzd ?_ | refine zzf ?_ | refine zzg ?_)
    refine cw_ret2 rfl rfl rfl ?_
    unfold DropB
    rw [hth]
    refine ⟨rfl, .inr ⟨rfl, ?_, mkG G H K L2, mkG_ext (by omega), ⟨mkG_in hB.gin (hI2.mono (by omega)) hM6.kin (by omega), by unfold mkG; rw [if_pos hbl]; exact hB.gb, BT.drop_wf hB.wf (beg_nil_ k), by omega, hms, K, L2, mb, v, hB6, ?_, hT6, hI2.mono (by omega), ?_, ?_⟩⟩⟩
    · refine ((hk1.mono (S' := fun z => G z ≠ 0) (fun _ _ h => h.elim)).step hk15 (fun z hz e => ?_)).step hk6 (fun z _ e => by have := hmut z e; omega)
      rcases e with e | e
      · have := r6 z e.some; omega
      · rw [e, hB.gb]; omega
    · rw [BT.drop_pairs hB.wf.wf0 (beg_nil_ k)]
      exact hM6
    · exact mkG_K (fun z hz hne => r5 z hne) (fun z hz hne => by have := hKin z hne; omega)
    · exact mkG_L (fun z hz hne => by rw [hL2lt z hz] at hne; exact r6 z hne)
end drop
end Go.Proofs.Ytaloblomncjgkaa.X
