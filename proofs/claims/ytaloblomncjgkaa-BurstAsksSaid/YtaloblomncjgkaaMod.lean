/- The package model: a map as pairs in order, which is turned in place: what its functions answer. -/
import Derived.Test.YtaloblomncjgkaaSlc
import Derived.Test.YtaloblomncjgkaaPrs6
namespace Go.Proofs.Ytaloblomncjgkaa.X
open Go Go.Proofs
set_option linter.unusedVariables false
set_option linter.unusedSimpArgs false
set_option maxRecDepth 10000
set_option maxHeartbeats 2000000

/-- a map of the package model: parts: 1 the map, 2 its row, 3 its keys -/
structure Mo (K : Role) (H : Heap) (b : Nat) (l : List Pr) : Prop where
  kin : K.In H
  kb : K b = 1
  row : ∃ v q, Blk H b [v] ∧ Own 2 H v l.length (pcs q) ∧ (0 < sc v → K (sb v) = 2) ∧ Pk (fun k c => Bs H k c ∧ (c ≠ [] → K (sb k) = 3)) q l
/-- what a call may turn that turns the map -/
abbrev MutM (K : Role) : Nat → Prop := fun x => K x = 1 ∨ K x = 2
section mo
variable {K K' : Role} {H H' : Heap} {b : Nat} {l : List Pr}
theorem Mo.keep {S : Nat → Prop} (h : Mo K H b l) (k : Keep S H H') (hS : ∀ x, K x ≠ 0 → ¬ S x) : Mo K H' b l := by
  obtain ⟨v, q, h1, h2, h3, h4⟩ := h.row
  exact ⟨h.kin.mono k.size, h.kb, v, q, h1.keep k (hS b (by rw [h.kb]; omega)), h2.keep k (fun hc => hS _ (by rw [h3 hc]; omega)), h3,
    h4.mono fun kk c hb => ⟨hb.1.keep k (fun hne => hS _ (by rw [hb.2 hne]; omega)), hb.2⟩⟩
theorem Mo.keepN (h : Mo K H b l) (k : Keep Non H H') : Mo K H' b l := h.keep k (fun _ _ h => h)
theorem Mo.role (h : Mo K H b l) (hk : K'.In H) (hs : ∀ x, K x ≠ 0 → K' x = K x) : Mo K' H b l := by
  obtain ⟨v, q, h1, h2, h3, h4⟩ := h.row
  exact ⟨hk, by rw [hs b (by rw [h.kb]; omega)]; exact h.kb, v, q, h1, h2, fun hc => by rw [hs _ (by rw [h3 hc]; omega)]; exact h3 hc,
    h4.mono fun kk c hb => ⟨hb.1, fun hne => by rw [hs _ (by rw [hb.2 hne]; omega)]; exact hb.2 hne⟩⟩
theorem Mo.ps (h : Mo K H b l) : ∃ v, cel H b 0 = some v ∧ Ps H v l := by
  obtain ⟨v, q, h1, h2, h3, h4⟩ := h.row
  exact ⟨v, by rw [h1.cel]; rfl, h2.sl, q, h4.mono fun _ _ hb => hb.1, h2.cels⟩
end mo
theorem pcs_one {H : Heap} {P : Value → List UInt8 → Prop} {q : List (Value × Int)} {l : List Pr} (h : Pk (fun k c => Bs H k c ∧ P k c) q l) : ∀ v ∈ pcs q, oneC v = true := pcs_oneC h fun _ _ hb => isSl_oneC hb.1.sl

theorem model_cmp {kk vk : Value} {c k : Bytes} {x : Int} {H : Heap} (hC : Bs H kk c) (hK : Bs H vk k) :
    Ret Try.prog 100 [.agg [kk, .int .u64 x].toArray, vk] H (fun r H' => Keep Non H H' ∧ r = .int .i64 (cmpB c k)) := by
  refine ret_of Try.func100 rfl rfl rfl rfl ?_
  intro w0
  repeat (first | refine za ?_ | refine zb ?_ | refine zt ?_ | refine zx ?_ | refine zy ?_ | refine zz ?_ | refine zzd ?_)
  refine x_box rfl rfl rfl trivial ?_
  intro H1 hn1
  refine ⟨trivial, ?_⟩
  have c0 : cel H1 H.size 0 = some kk := by rw [hn1.blk.cel]; rfl
  repeat (first | refine za ?_ | refine zb ?_ | refine zt ?_ | refine zx ?_ | refine zy ?_ | refine zz ?_ | refine zzd ?_)
  refine x_load rfl rfl (hpmt (c0)) rfl trivial ?_
  repeat (first | refine za ?_ | refine zb ?_ | refine zt ?_ | refine zx ?_ | refine zy ?_ | refine zz ?_ | refine zzd ?_)
  refine x_call rfl rfl rfl trivial (key_Compare (hC.keepN hn1.keep) (hK.keepN hn1.keep)) ?_
  rintro _ _ ⟨rfl, rfl⟩
  refine ⟨trivial, ?_⟩
  repeat (first | refine za ?_ | refine zb ?_ | refine zt ?_ | refine zx ?_ | refine zy ?_ | refine zz ?_ | refine zzd ?_)
  exact cw_ret1 rfl rfl ⟨hn1.keep, rfl⟩

theorem model_find {K : Role} {b : Nat} {vk : Value} {l : List Pr} {k : Bytes} {H : Heap} (hM : Mo K H b l) (hr : rises l = true) (hl : l.length ≤ 100000) (hK : Bs H vk k) :
    Ret Try.prog 82 [ptr b 0, vk] H (fun r H' => Keep Non H H' ∧ r = .tuple #[.int .i64 (rank l k), .bool (there l k)]) := by
  obtain ⟨v, c0, hP⟩ := hM.ps
  refine ret_of Try.func82 rfl rfl rfl rfl ?_
  intro w0
  repeat (first | refine za ?_ | refine zb ?_ | refine zg ?_ | refine zj ?_ | refine zr ?_ | refine zs ?_ | refine zt ?_ | refine zx ?_ | refine zy ?_ | refine zz ?_ | refine zzc ?_ | refine zzd ?_ | refine zzf ?_ | refine zzg ?_)
  refine x_load rfl rfl (hpmt (c0)) rfl trivial ?_
  repeat (first | refine za ?_ | refine zb ?_ | refine zg ?_ | refine zj ?_ | refine zr ?_ | refine zs ?_ | refine zt ?_ | refine zx ?_ | refine zy ?_ | refine zz ?_ | refine zzc ?_ | refine zzd ?_ | refine zzf ?_ | refine zzg ?_)
  refine x_call rfl rfl rfl trivial (slices_Search hP hK hr hl (fun H' hk' kk c x hb => model_cmp hb (hK.keepN hk'))) ?_
  rintro _ H1 ⟨hk1, rfl⟩
  refine ⟨trivial, ?_⟩
  repeat (first | refine za ?_ | refine zb ?_ | refine zg ?_ | refine zj ?_ | refine zr ?_ | refine zs ?_ | refine zt ?_ | refine zx ?_ | refine zy ?_ | refine zz ?_ | refine zzc ?_ | refine zzd ?_ | refine zzf ?_ | refine zzg ?_)
  exact cw_ret2 rfl rfl rfl ⟨hk1, rfl⟩

theorem model_Len {K : Role} {b : Nat} {l : List Pr} {H : Heap} (hM : Mo K H b l) : Ret Try.prog 55 [ptr b 0] H (fun r H' => H = H' ∧ r = .int .i64 l.length) := by
  obtain ⟨v, c0, hP⟩ := hM.ps
  have sV := hP.sl
  refine ret_of Try.func55 rfl rfl rfl rfl ?_
  intro w0
  repeat (first | refine za ?_ | refine zb ?_ | refine zg ?_ | refine zj ?_ | refine zl ?_ | refine zs ?_ | refine zt ?_ | refine zx ?_ | refine zy ?_ | refine zz ?_ | refine zzc ?_ | refine zzd ?_ | refine zzf ?_ | refine zzg ?_)
  refine x_load rfl rfl (hpmt (c0)) rfl trivial ?_
  repeat (first | refine za ?_ | refine zb ?_ | refine zg ?_ | refine zj ?_ | refine zl ?_ | refine zs ?_ | refine zt ?_ | refine zx ?_ | refine zy ?_ | refine zz ?_ | refine zzc ?_ | refine zzd ?_ | refine zzf ?_ | refine zzg ?_)
  exact cw_ret1 rfl rfl ⟨rfl, rfl⟩

theorem getM_is (l : List Pr) (k : Bytes) : (getM l k).isSome = there l k := by
  cases h : there l k with
  | false => rw [getM_there.1 h]; rfl
  | true => obtain ⟨p, _, _, h2⟩ := getM_there.2 h; rw [h2]; rfl

theorem model_Get {K : Role} {b : Nat} {vk : Value} {l : List Pr} {k : Bytes} {H : Heap} (hM : Mo K H b l) (hr : rises l = true) (hl : l.length ≤ 100000) (hK : Bs H vk k) :
    Ret Try.prog 48 [ptr b 0, vk] H (fun r H' => Keep Non H H' ∧ r = .tuple #[.int .u64 ((getM l k).getD 0), .bool (there l k)]) := by
  have hle := rank_le l k
  refine ret_of Try.func48 rfl rfl rfl rfl ?_
  intro w0
  repeat (first | refine za ?_ | refine zb ?_ | refine zo ?_ | refine zr ?_ | refine zs ?_ | refine zt ?_ | refine zv ?_ | refine zw ?_ | refine zx ?_ | refine zy ?_ | refine zz ?_ | refine zzc ?_ | refine zzd ?_ | refine zzf ?_ | refine zzg ?_)
  refine x_call rfl rfl rfl trivial (model_find hM hr hl hK) ?_
  rintro _ H1 ⟨hk1, rfl⟩
  refine ⟨trivial, ?_⟩
  obtain ⟨v, c0, hP⟩ := (hM.keepN hk1).ps
  have sV := hP.sl
  rcases hth : there l k with _ | _
  · rw [getM_there.1 hth]
    repeat (first | refine za ?_ | refine zb ?_ | refine zo ?_ | refine zr ?_ | refine zs ?_ | refine zt ?_ | refine zv ?_ | refine zw ?_ | refine zx ?_ | refine zy ?_ | refine zz ?_ | refine zzc ?_ | refine zzd ?_ | refine zzf ?_ | refine zzg ?_)
    exact cw_ret2 rfl rfl rfl ⟨hk1, rfl⟩
  · obtain ⟨p, h1, h2, h3⟩ := getM_there.2 hth
    rw [h3]
    have hlt := (List.getElem?_eq_some_iff.1 h1).1
    obtain ⟨kk, a1, a2, a3⟩ := hP.at_ _ p h1
    repeat (first | refine za ?_ | refine zb ?_ | refine zo ?_ | refine zr ?_ | refine zs ?_ | refine zt ?_ | refine zv ?_ | refine zw ?_ | refine zx ?_ | refine zy ?_ | refine zz ?_ | refine zzc ?_ | refine zzd ?_ | refine zzf ?_ | refine zzg ?_)
    refine x_load rfl rfl (hpmt (c0)) rfl trivial ?_
    repeat (first | refine za ?_ | refine zb ?_ | refine zo ?_ | refine zr ?_ | refine zs ?_ | refine zt ?_ | refine zv ?_ | refine zw ?_ | refine zx ?_ | refine zy ?_ | refine zz ?_ | refine zzc ?_ | refine zzd ?_ | refine zzf ?_ | refine zzg ?_)
    refine x_load rfl rfl (hpmt (a2)) rfl trivial ?_
    repeat (first | refine za ?_ | refine zb ?_ | refine zo ?_ | refine zr ?_ | refine zs ?_ | refine zt ?_ | refine zv ?_ | refine zw ?_ | refine zx ?_ | refine zy ?_ | refine zz ?_ | refine zzc ?_ | refine zzd ?_ | refine zzf ?_ | refine zzg ?_)
    exact cw_ret2 rfl rfl rfl ⟨hk1, rfl⟩

theorem model_Rank {K : Role} {b : Nat} {vk : Value} {l : List Pr} {k : Bytes} {H : Heap} (hM : Mo K H b l) (hr : rises l = true) (hl : l.length ≤ 100000) (hK : Bs H vk k) :
    Ret Try.prog 59 [ptr b 0, vk] H (fun r H' => Keep Non H H' ∧ r = .int .i64 (rank l k)) := by
  refine ret_of Try.func59 rfl rfl rfl rfl ?_
  intro w0
  repeat (first | refine za ?_ | refine zb ?_ | refine zr ?_ | refine zx ?_ | refine zy ?_ | refine zz ?_ | refine zzd ?_)
  refine x_call rfl rfl rfl trivial (model_find hM hr hl hK) ?_
  rintro _ H1 ⟨hk1, rfl⟩
  refine ⟨trivial, ?_⟩
  repeat (first | refine za ?_ | refine zb ?_ | refine zr ?_ | refine zx ?_ | refine zy ?_ | refine zz ?_ | refine zzd ?_)
  exact cw_ret1 rfl rfl ⟨hk1, rfl⟩

theorem putM_there {l : List Pr} {k : Bytes} {x : Int} (h : there l k = true) : putM l k x = l.set (rank l k) (k, x) := by
  obtain ⟨p, h1, h2, h3⟩ := getM_there.2 h
  have hlt := (List.getElem?_eq_some_iff.1 h1).1
  unfold putM
  rw [h, if_pos rfl, List.set_eq_take_append_cons_drop, if_pos hlt]
theorem putM_not {l : List Pr} {k : Bytes} {x : Int} (h : there l k = false) : putM l k x = l.take (rank l k) ++ (k, x) :: l.drop (rank l k) := by
  unfold putM
  rw [h]
  simp

theorem model_Put {K : Role} {b : Nat} {vk : Value} {l : List Pr} {k : Bytes} {H : Heap} (x : Int) (hM : Mo K H b l) (hr : rises l = true) (hl : l.length ≤ 10000) (hK : Bs H vk k) (hk : k.length ≤ 65535) :
    Ret Try.prog 51 [ptr b 0, vk, .int .u64 x] H (fun r H' => r = .tuple #[.int .u64 ((getM l k).getD 0), .bool (there l k), .int .i64 0] ∧ Keep (MutM K) H H' ∧ ∃ K', K.Ext K' H H' ∧ Mo K' H' b (putM l k x)) := by
  have hle := rank_le l k
  refine ret_of Try.func51 rfl rfl rfl rfl ?_
  intro w0
  repeat (first | refine za ?_ | refine zb ?_ | refine zg ?_ | refine zj ?_ | refine zo ?_ | refine zr ?_ | refine zs ?_ | refine zt ?_ | refine zv ?_ | refine zw ?_ | refine zx ?_ | refine zy ?_ | refine zz ?_ | refine zza ?_ | refine zzb ?_ | refine zzc ?_ | refine zzd ?_ | refine zzf ?_ | refine zzg ?_)
  refine x_call rfl rfl rfl trivial (key_May hK.sl) ?_
  rintro _ _ ⟨rfl, rfl⟩
  refine ⟨trivial, ?_⟩
  rw [decide_eq_true hk]
  repeat (first | refine za ?_ | refine zb ?_ | refine zg ?_ | refine zj ?_ | refine zo ?_ | refine zr ?_ | refine zs ?_ | refine zt ?_ | refine zv ?_ | refine zw ?_ | refine zx ?_ | refine zy ?_ | refine zz ?_ | refine zza ?_ | refine zzb ?_ | refine zzc ?_ | refine zzd ?_ | refine zzf ?_ | refine zzg ?_)
  refine x_call rfl rfl rfl trivial (model_find hM hr (by omega) hK) ?_
  rintro _ H1 ⟨hk1, rfl⟩
  refine ⟨trivial, ?_⟩
  have hM1 := hM.keepN hk1
  obtain ⟨v, q, hB, hO, hV, hQ⟩ := hM1.row
  have sV := hO.sl
  have cV := sV.cap
  have hql := hQ.len
  have c0 : cel H1 b 0 = some v := by rw [hB.cel]; rfl
  rcases hth : there l k with _ | _
  · rw [getM_there.1 hth]
    have hkr := Keep.refl Non H1
    repeat (first | refine za ?_ | refine zb ?_ | refine zg ?_ | refine zj ?_ | refine zo ?_ | refine zr ?_ | refine zs ?_ | refine zt ?_ | refine zv ?_ | refine zw ?_ | refine zx ?_ | refine zy ?_ | refine zz ?_ | refine zza ?_ | refine zzb ?_ | refine zzc ?_ | refine zzd ?_ | refine zzf ?_ | refine zzg ?_)
    refine cw_held (fun _ => Keep Non H1) ⟨[7, 10, 11, 14], [(4, 0)]⟩ (.op 0 (.op 1 (.op 2 (.op 3 (.op 4 (.op 5 (.op 6 (.op 8 (.op 7 (.op 9 (.op 10 (.op 11 (.op 12 (.op 13 (.op 14 (.nil)))))))))))))))) panicOk_body mixed (by kernel_rfl) ?_
    repeat (first | refine za ?_ | refine zb ?_ | refine zj ?_ | refine zo ?_ | refine zr ?_ | refine zs ?_ | refine zt ?_ | refine zv ?_ | refine zw ?_ | refine zx ?_ | refine zy ?_ | refine zz ?_ | refine zza ?_ | refine zzb ?_ | refine zzc ?_ | refine zzd ?_ | refine zzf ?_ | refine zzg ?_)
    refine x_load rfl rfl (hpmk rfl (fun _ hk => hk.cel c0 (fun h => h))) rfl (okq_load rfl rfl (by assumption)) ?_
    repeat (first | refine za ?_ | refine zb ?_ | refine zj ?_ | refine zo ?_ | refine zr ?_ | refine zs ?_ | refine zt ?_ | refine zv ?_ | refine zw ?_ | refine zx ?_ | refine zy ?_ | refine zz ?_ | refine zza ?_ | refine zzb ?_ | refine zzc ?_ | refine zzd ?_ | refine zzf ?_ | refine zzg ?_)
    refine x_call rfl rfl rfl ⟨rfl, rfl⟩ (slices_Clone (hK.keepN hk1) (by omega)) ?_
    rintro c H2 ⟨hk2, hc2, hf2⟩
    refine ⟨okm_keep hk2 (fun _ _ h => h), ?_⟩
    repeat (first | refine za ?_ | refine zb ?_ | refine zj ?_ | refine zo ?_ | refine zr ?_ | refine zs ?_ | refine zt ?_ | refine zv ?_ | refine zw ?_ | refine zx ?_ | refine zy ?_ | refine zz ?_ | refine zza ?_ | refine zzb ?_ | refine zzc ?_ | refine zzd ?_ | refine zzf ?_ | refine zzg ?_)
    refine x_build (cs := [c, .int .u64 (x)]) rfl rfl rfl (two_oneC (isSl_oneC hc2.sl)) rfl (okq_reg rfl rfl) ?_
    refine x_buildSliceS1 (by rfl) rfl rfl (by omega) (by rfl) rfl ⟨rfl, rfl⟩ ?_
    intro H3 hn3
    have hk3 := hn3.old hk2
    refine ⟨okm_keep hn3.keep (fun _ _ h => h.elim), ?_⟩
    have hO3 := hO.keep hk3 (fun _ h => h)
    have hql3 : q.length = l.length := hql
    rw [← hql3] at hO3
    refine x_call rfl rfl rfl ⟨rfl, rfl⟩ (slices_Insert (kk := c) (x := x) (i := rank l k) (a := H2.size) hO3 (by omega) (by omega) (pcs_one hQ) (isSl_oneC hc2.sl) hn3.raw (fun hc => by have := hO.lt hc; have := hk2.size; omega)) ?_
    rintro r H4 ⟨hO4, hk4, hp4⟩
    refine ⟨okm_free (fun c => by cases c <;> kernel_rfl), ?_⟩
    have hs2 := hk2.size
    have hs3 := hn3.size
    have hs4 := hk4.size
    have hB4 := ((hB.keep hk3 (fun h => h)).keep hk4 (fun e => by have := hV e.2; rw [← e.1, hM.kb] at this; omega))
    repeat (first | refine za ?_ | refine zb ?_ | refine zj ?_ | refine zo ?_ | refine zr ?_ | refine zs ?_ | refine zt ?_ | refine zv ?_ | refine zw ?_ | refine zx ?_ | refine zy ?_ | refine zz ?_ | refine zza ?_ | refine zzb ?_ | refine zzc ?_ | refine zzd ?_ | refine zzf ?_ | refine zzg ?_)
    refine x_store rfl rfl rfl (isSl_oneC hO4.sl) hB4 (by simp) ⟨rfl, rfl⟩ ?_
    intro H5 hB5 hk5 hs5
    refine ⟨okm_free (fun c => by cases c <;> kernel_rfl), ?_⟩
    repeat (first | refine za ?_ | refine zb ?_ | refine zj ?_ | refine zo ?_ | refine zr ?_ | refine zs ?_ | refine zt ?_ | refine zv ?_ | refine zw ?_ | refine zx ?_ | refine zy ?_ | refine zz ?_ | refine zza ?_ | refine zzb ?_ | refine zzc ?_ | refine zzd ?_ | refine zzf ?_ | refine zzg ?_)
    repeat (first | refine za ?_ | refine zb ?_ | refine zg ?_ | refine zj ?_ | refine zo ?_ | refine zr ?_ | refine zs ?_ | refine zt ?_ | refine zv ?_ | refine zw ?_ | refine zx ?_ | refine zy ?_ | refine zz ?_ | refine zza ?_ | refine zzb ?_ | refine zzc ?_ | refine zzd ?_ | refine zzf ?_ | refine zzg ?_)
    have hrpos : 0 < sc r := by have := hO4.sl.cap; omega
    have hbr : sb r ≠ b := fun e => by
      rcases hp4 with ⟨e1, e2⟩ | e1
      · have := hV e2; rw [← e1, e, hM.kb] at this; omega
      · have := hB.lt; omega
    have hk15 : Keep (MutM K) H1 H5 := ((hk3.mono (S' := MutM K) (fun _ _ h => h.elim)).step hk4 (fun z _ e => .inr (by rw [e.1]; exact hV e.2))).step hk5 (fun z _ e => .inl (by rw [e]; exact hM.kb))
    have hin1 : K.In H1 := hM1.kin
    refine cw_ret3 rfl rfl rfl rfl ⟨rfl, (hk1.mono fun _ _ h => h.elim).step hk15 (fun z _ e => e), (if k = [] then K else K.set (sb c) 3).set (sb r) 2, ⟨fun z hz => ?_, ?_⟩, ⟨?_, ?_, r, q.take (rank l k) ++ (c, x) :: q.drop (rank l k), ?_, ?_, ?_, ?_⟩⟩
    · have h1 := hk1.size
      have hcz : k ≠ [] → z ≠ sb c := fun hne e => by
        have := List.length_pos_iff.2 hne
        have := hf2 (by have := hc2.sl.cap; omega)
        omega
      by_cases e : z = sb r
      · rcases hp4 with ⟨e1, e2⟩ | e1
        · rw [e, Role.set_at, e1]; exact (hV e2).symm
        · omega
      · rw [Role.set_ne _ e]
        split
        · rfl
        · rename_i hne; rw [Role.set_ne _ (hcz hne)]
    · have := hk1.size; omega
    · refine Role.In.set ?_ (by have := hO4.lt hrpos; omega)
      split
      · exact hin1.mono (by omega)
      · rename_i hne
        refine Role.In.set (hin1.mono (by omega)) ?_
        have := List.length_pos_iff.2 hne
        have := hc2.lt (by have := hc2.sl.cap; omega)
        omega
    · rw [Role.set_ne _ (fun e => hbr e.symm)]
      split
      · exact hM.kb
      · rename_i hne
        rw [Role.set_ne _ (fun e => ?_)]
        · exact hM.kb
        · have := List.length_pos_iff.2 hne
          have := hf2 (by have := hc2.sl.cap; omega)
          have := hB.lt
          omega
    · exact hB5
    · have e : (putM l k x).length = q.length + 1 := by rw [putM_not hth]; simp; omega
      rw [e]
      exact hO4.keep hk5 (fun _ e => hbr e)
    · intro _
      rw [Role.set_at]
    · rw [putM_not hth]
      have hne_r : ∀ z, (z < H2.size) → K z ≠ 2 → z ≠ sb r := fun z hz hk2' e => by
        rcases hp4 with ⟨e1, e2⟩ | e1
        · apply hk2'; rw [e, e1]; exact hV e2
        · omega
      have hbs : ∀ (u : Value) (c' : Bytes) (H0 : Heap), Bs H3 u c' → (c' ≠ [] → sb u < H2.size ∧ K (sb u) ≠ 2 ∧ sb u ≠ b) → Bs H5 u c' := fun u c' _ hb hne =>
        (hb.keep hk4 (fun hc e => by obtain ⟨g1, g2, g3⟩ := hne hc; apply g2; rw [e.1]; exact hV e.2)).keep hk5 (fun hc e => (hne hc).2.2 e)
      have hold : Pk (fun u c' => Bs H5 u c' ∧ (c' ≠ [] → ((if k = [] then K else K.set (sb c) 3).set (sb r) 2) (sb u) = 3)) q l := hQ.mono fun u c' hb => by
        refine ⟨hbs u c' H1 (hb.1.keepN hk3) (fun hne => ⟨by have := hb.1.lt hne; omega, by rw [hb.2 hne]; omega, fun e => by have := hb.2 hne; rw [e, hM.kb] at this; omega⟩), fun hne => ?_⟩
        have h3 := hb.2 hne
        have hlt := hb.1.lt hne
        rw [Role.set_ne _ (hne_r _ (by omega) (by rw [h3]; omega))]
        split
        · exact h3
        · rename_i hne'
          rw [Role.set_ne _ (fun e => ?_)]
          · exact h3
          · have := List.length_pos_iff.2 hne'
            have := hf2 (by have := hc2.sl.cap; omega)
            omega
      refine (hold.take _).append ((Pk.one (p := (k, x)) ⟨hbs c k H1 (hc2.bs.keepN hn3.keep) (fun hne => ?_), fun hne => ?_⟩).append (hold.drop _))
      · have hne : k ≠ [] := hne
        have := List.length_pos_iff.2 hne
        have g1 := hf2 (by have := hc2.sl.cap; omega)
        have g2 := hc2.lt (by have := hc2.sl.cap; omega)
        exact ⟨g2, by rw [Role.In.off hin1 g1]; omega, by have := hB.lt; omega⟩
      · have hne : k ≠ [] := hne
        have := List.length_pos_iff.2 hne
        have g1 := hf2 (by have := hc2.sl.cap; omega)
        have g2 := hc2.lt (by have := hc2.sl.cap; omega)
        rw [Role.set_ne _ (hne_r _ g2 (by rw [Role.In.off hin1 g1]; omega)), if_neg hne, Role.set_at]
  · obtain ⟨p, h1, h2, h3⟩ := getM_there.2 hth
    rw [h3]
    have hlt := (List.getElem?_eq_some_iff.1 h1).1
    obtain ⟨kk, hqk, hkk⟩ := hQ.get h1
    obtain ⟨a1, a2⟩ := cel_pcs hO.cels hqk
    have hpos : 0 < sc v := by omega
    obtain ⟨z, hz1, hz2, hz3⟩ := hO.store (rank l k * 2 + 1) (by rw [pcs_length]; omega)
    repeat (first | refine za ?_ | refine zb ?_ | refine zg ?_ | refine zj ?_ | refine zo ?_ | refine zr ?_ | refine zs ?_ | refine zt ?_ | refine zv ?_ | refine zw ?_ | refine zx ?_ | refine zy ?_ | refine zz ?_ | refine zza ?_ | refine zzb ?_ | refine zzc ?_ | refine zzd ?_ | refine zzf ?_ | refine zzg ?_)
    refine x_load rfl rfl (hpmt (c0)) rfl trivial ?_
    repeat (first | refine za ?_ | refine zb ?_ | refine zg ?_ | refine zj ?_ | refine zo ?_ | refine zr ?_ | refine zs ?_ | refine zt ?_ | refine zv ?_ | refine zw ?_ | refine zx ?_ | refine zy ?_ | refine zz ?_ | refine zza ?_ | refine zzb ?_ | refine zzc ?_ | refine zzd ?_ | refine zzf ?_ | refine zzg ?_)
    refine x_load rfl rfl (hpmt (a2)) rfl trivial ?_
    repeat (first | refine za ?_ | refine zb ?_ | refine zg ?_ | refine zj ?_ | refine zo ?_ | refine zr ?_ | refine zs ?_ | refine zt ?_ | refine zv ?_ | refine zw ?_ | refine zx ?_ | refine zy ?_ | refine zz ?_ | refine zza ?_ | refine zzb ?_ | refine zzc ?_ | refine zzd ?_ | refine zzf ?_ | refine zzg ?_)
    refine x_load rfl rfl (hpmt (c0)) rfl trivial ?_
    repeat (first | refine za ?_ | refine zb ?_ | refine zg ?_ | refine zj ?_ | refine zo ?_ | refine zr ?_ | refine zs ?_ | refine zt ?_ | refine zv ?_ | refine zw ?_ | refine zx ?_ | refine zy ?_ | refine zz ?_ | refine zza ?_ | refine zzb ?_ | refine zzc ?_ | refine zzd ?_ | refine zzf ?_ | refine zzg ?_)
    refine x_store rfl rfl rfl rfl hz1 (by show so v + rank l k * 2 + 1 < _; omega) trivial ?_
    intro H2 hB2 hk2 hs2
    refine ⟨trivial, ?_⟩
    have hO2 := hz3 H2 (.int .u64 x) hB2
    rw [pcs_set1 hqk] at hO2
    have hne : ∀ z, K z ≠ 2 → z ≠ sb v := fun z hz e => hz (by rw [e]; exact hV hpos)
    repeat (first | refine za ?_ | refine zb ?_ | refine zg ?_ | refine zj ?_ | refine zo ?_ | refine zr ?_ | refine zs ?_ | refine zt ?_ | refine zv ?_ | refine zw ?_ | refine zx ?_ | refine zy ?_ | refine zz ?_ | refine zza ?_ | refine zzb ?_ | refine zzc ?_ | refine zzd ?_ | refine zzf ?_ | refine zzg ?_)
    refine cw_ret3 rfl rfl rfl rfl ⟨rfl, (hk1.mono fun _ _ h => h.elim).step hk2 (fun z _ e => .inr (by rw [e]; exact hV hpos)), K, (Role.Ext.refl K H).mono (by have := hk1.size; omega), ⟨hM1.kin.mono hk2.size, hM.kb, v, q.set (rank l k) (kk, x), hB.keep hk2 (hne b (by rw [hM.kb]; omega)), ?_, hV, ?_⟩⟩
    · rw [putM_there hth, List.length_set]
      exact hO2
    · rw [putM_there hth]
      refine Pk.set (y := (kk, x)) (p := (k, x)) (hQ.mono fun u c' hb => ⟨hb.1.keep hk2 (fun hc => hne _ (by rw [hb.2 hc]; omega)), hb.2⟩) ?_ rfl
      rw [← h2]
      exact ⟨hkk.1.keep hk2 (fun hc => hne _ (by rw [hkk.2 hc]; omega)), hkk.2⟩

theorem model_Drop {K : Role} {b : Nat} {vk : Value} {l : List Pr} {k : Bytes} {H : Heap} (hM : Mo K H b l) (hr : rises l = true) (hl : l.length ≤ 10000) (hK : Bs H vk k) :
    Ret Try.prog 63 [ptr b 0, vk] H (fun r H' => r = .tuple #[.int .u64 ((getM l k).getD 0), .bool (there l k)] ∧ Keep (MutM K) H H' ∧ Mo K H' b (dropM l k)) := by
  have hle := rank_le l k
  refine ret_of Try.func63 rfl rfl rfl rfl ?_
  intro w0
  repeat (first | refine za ?_ | refine zb ?_ | refine zc ?_ | refine zj ?_ | refine zo ?_ | refine zr ?_ | refine zs ?_ | refine zt ?_ | refine zv ?_ | refine zw ?_ | refine zx ?_ | refine zy ?_ | refine zz ?_ | refine zzc ?_ | refine zzd ?_ | refine zzf ?_ | refine zzg ?_)
  refine x_call rfl rfl rfl trivial (model_find hM hr (by omega) hK) ?_
  rintro _ H1 ⟨hk1, rfl⟩
  refine ⟨trivial, ?_⟩
  have hM1 := hM.keepN hk1
  obtain ⟨v, q, hB, hO, hV, hQ⟩ := hM1.row
  have sV := hO.sl
  have cV := sV.cap
  have hql := hQ.len
  have c0 : cel H1 b 0 = some v := by rw [hB.cel]; rfl
  rcases hth : there l k with _ | _
  · rw [getM_there.1 hth]
    have hd : dropM l k = l := by unfold dropM; rw [hth]; simp
    rw [hd]
    repeat (first | refine za ?_ | refine zb ?_ | refine zc ?_ | refine zj ?_ | refine zo ?_ | refine zr ?_ | refine zs ?_ | refine zt ?_ | refine zv ?_ | refine zw ?_ | refine zx ?_ | refine zy ?_ | refine zz ?_ | refine zzc ?_ | refine zzd ?_ | refine zzf ?_ | refine zzg ?_)
    exact cw_ret2 rfl rfl rfl ⟨rfl, hk1.mono fun _ _ h => h.elim, hM1⟩
  · obtain ⟨p, h1, h2, h3⟩ := getM_there.2 hth
    rw [h3]
    have hlt := (List.getElem?_eq_some_iff.1 h1).1
    have hd : dropM l k = l.take (rank l k) ++ l.drop (rank l k + 1) := by unfold dropM; rw [hth]; simp
    rw [hd]
    obtain ⟨kk, hqk, hkk⟩ := hQ.get h1
    obtain ⟨a1, a2⟩ := cel_pcs hO.cels hqk
    have hpos : 0 < sc v := by omega
    have hO' := hO
    rw [← hql] at hO'
    repeat (first | refine za ?_ | refine zb ?_ | refine zc ?_ | refine zj ?_ | refine zo ?_ | refine zr ?_ | refine zs ?_ | refine zt ?_ | refine zv ?_ | refine zw ?_ | refine zx ?_ | refine zy ?_ | refine zz ?_ | refine zzc ?_ | refine zzd ?_ | refine zzf ?_ | refine zzg ?_)
    refine x_load rfl rfl (hpmt (c0)) rfl trivial ?_
    repeat (first | refine za ?_ | refine zb ?_ | refine zc ?_ | refine zj ?_ | refine zo ?_ | refine zr ?_ | refine zs ?_ | refine zt ?_ | refine zv ?_ | refine zw ?_ | refine zx ?_ | refine zy ?_ | refine zz ?_ | refine zzc ?_ | refine zzd ?_ | refine zzf ?_ | refine zzg ?_)
    refine x_load rfl rfl (hpmt (a2)) rfl trivial ?_
    repeat (first | refine za ?_ | refine zb ?_ | refine zc ?_ | refine zj ?_ | refine zo ?_ | refine zr ?_ | refine zs ?_ | refine zt ?_ | refine zv ?_ | refine zw ?_ | refine zx ?_ | refine zy ?_ | refine zz ?_ | refine zzc ?_ | refine zzd ?_ | refine zzf ?_ | refine zzg ?_)
    refine x_load rfl rfl (hpmt (c0)) rfl trivial ?_
    repeat (first | refine za ?_ | refine zb ?_ | refine zc ?_ | refine zj ?_ | refine zo ?_ | refine zr ?_ | refine zs ?_ | refine zt ?_ | refine zv ?_ | refine zw ?_ | refine zx ?_ | refine zy ?_ | refine zz ?_ | refine zzc ?_ | refine zzd ?_ | refine zzf ?_ | refine zzg ?_)
    refine x_as 32 (.int .i64 ((rank l k + 1 : Nat) : Int)) rfl rfl ?_
    refine x_call rfl rfl rfl trivial (slices_Delete (i := rank l k) hO' (by omega) (by omega) (pcs_one hQ)) ?_
    rintro r H2 ⟨hO2, hk2, e1, e2⟩
    refine ⟨trivial, ?_⟩
    have hne : ∀ z, K z ≠ 2 → ¬ (z = sb v ∧ 0 < sc v) := fun z hz e => hz (by rw [e.1]; exact hV e.2)
    have hB2 := hB.keep hk2 (hne b (by rw [hM.kb]; omega))
    repeat (first | refine za ?_ | refine zb ?_ | refine zc ?_ | refine zj ?_ | refine zo ?_ | refine zr ?_ | refine zs ?_ | refine zt ?_ | refine zv ?_ | refine zw ?_ | refine zx ?_ | refine zy ?_ | refine zz ?_ | refine zzc ?_ | refine zzd ?_ | refine zzf ?_ | refine zzg ?_)
    refine x_store rfl rfl rfl (isSl_oneC hO2.sl) hB2 (by simp) trivial ?_
    intro H3 hB3 hk3 hs3
    refine ⟨trivial, ?_⟩
    have hne3 : ∀ z, K z ≠ 1 → z ≠ b := fun z hz e => hz (by rw [e]; exact hM.kb)
    repeat (first | refine za ?_ | refine zb ?_ | refine zc ?_ | refine zj ?_ | refine zo ?_ | refine zr ?_ | refine zs ?_ | refine zt ?_ | refine zv ?_ | refine zw ?_ | refine zx ?_ | refine zy ?_ | refine zz ?_ | refine zzc ?_ | refine zzd ?_ | refine zzf ?_ | refine zzg ?_)
    refine cw_ret2 rfl rfl rfl ⟨rfl, ((hk1.mono fun _ _ h => h.elim).step hk2 (fun z _ e => .inr (by rw [e.1]; exact hV e.2))).step hk3 (fun z _ e => .inl (by rw [e]; exact hM.kb)), ⟨(hM1.kin.mono hk2.size).mono hk3.size, hM.kb, r, q.take (rank l k) ++ q.drop (rank l k + 1), hB3, ?_, fun hc => ?_, ?_⟩⟩
    · have e : (l.take (rank l k) ++ l.drop (rank l k + 1)).length = q.length - 1 := by simp; omega
      rw [e]
      exact hO2.keep hk3 (fun _ => hne3 _ (by rw [e1, hV hpos]; omega))
    · rw [e1]; exact hV hpos
    · have hk' : Pk (fun k c => Bs H3 k c ∧ (c ≠ [] → K (sb k) = 3)) q l := hQ.mono fun u c' hb => ⟨(hb.1.keep hk2 (fun hc => hne _ (by rw [hb.2 hc]; omega))).keep hk3 (fun hc => hne3 _ (by rw [hb.2 hc]; omega)), hb.2⟩
      exact (hk'.take _).append (hk'.drop _)
end Go.Proofs.Ytaloblomncjgkaa.X
