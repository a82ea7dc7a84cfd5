/- The package burst: a tree with its pairs in order: what its methods answer. -/
import Derived.Test.YtaloblomncjgkaaBur7
import Derived.Test.YtaloblomncjgkaaFlo
import Derived.Test.YtaloblomncjgkaaKbs
namespace Go.Proofs.Ytaloblomncjgkaa.X
open Go Go.Proofs
set_option linter.unusedVariables false
set_option linter.unusedSimpArgs false
set_option maxRecDepth 10000
set_option maxHeartbeats 2000000

namespace BT
theorem drop_size : ∀ (t : BT) (w k : Bytes), (t.drop w k).size ≤ t.size := by
  have hf : ∀ (w : Bytes) (t : BT), (fewer w t).size ≤ max 1 t.size := fun w t => by unfold fewer; split; exact Nat.le_max_left _ _; exact Nat.le_max_right _ _
  intro t
  induction t with
  | nil => intro w k; unfold drop; exact Nat.le_refl _
  | shelf ps => intro w k; unfold drop; split; exact Nat.zero_le _; exact Nat.le_refl _
  | node own kids ih =>
    intro w k
    cases hc : k[w.length]? with
    | none =>
      rw [drop, hc]
      refine Nat.le_trans (hf _ _) ?_
      show max 1 (1 + _) ≤ 1 + _
      omega
    | some c =>
      rw [drop, hc]
      have h1 := sumB_upd c (g := fun b => (kids b).size) (g' := fun b => (setF kids c ((kids c).drop (w ++ [c]) k) b).size) (fun d hd => by rw [setF_ne _ _ hd])
      simp only [setF_at] at h1
      have h2 := ih c (w ++ [c]) k
      refine Nat.le_trans (hf _ _) ?_
      show max 1 (1 + sumB _) ≤ 1 + sumB _
      omega
theorem look_there {t : BT} (h : t.Wf0 []) (k : Bytes) : t.look [] k = if there (t.pairs []) k then getM (t.pairs []) k else none := by
  have h1 := fnd_pairs h k
  rw [if_pos (by rfl), fnd_getM (pairs_rise h)] at h1
  rw [← h1]
  cases hth : there (t.pairs []) k with
  | true => simp
  | false => simp [getM_there.1 hth]
end BT

/-- parts: 1 the tree, 2 its map's, 3 its nodes' -/
structure Bu (G : Role) (H : Heap) (b most : Nat) (t : BT) : Prop where
  gin : G.In H
  gb : G b = 1
  wf : t.Wf []
  size : t.size ≤ most
  most_ : most ≤ 1048576
  row : ∃ K L mb vr, Blk H b [ptr mb 0, .int .i64 most, vr, .int .i64 t.size] ∧ Mo K H mb (t.pairs []) ∧ Tv L H t [] vr ∧ L.In H ∧ (∀ x, K x ≠ 0 → G x = 2) ∧ (∀ x, L x ≠ none → G x = 3)
section bu
variable {G : Role} {H H' : Heap} {b most : Nat} {t : BT}
theorem Bu.keep {S : Nat → Prop} (h : Bu G H b most t) (k : Keep S H H') (hS : ∀ x, G x ≠ 0 → ¬ S x) : Bu G H' b most t := by
  obtain ⟨K, L, mb, vr, h1, h2, h3, h4, h5, h6⟩ := h.row
  exact ⟨h.gin.mono k.size, h.gb, h.wf, h.size, h.most_, K, L, mb, vr, h1.keep k (hS b (by rw [h.gb]; omega)), h2.keep k (fun x hx => hS x (by rw [h5 x hx]; omega)),
    h3.keep k (fun x hx => hS x (by rw [h6 x (by rw [hx]; simp)]; omega)) (fun x hx => hS x (by rw [h6 x hx.some]; omega)), h4.mono k.size, h5, h6⟩
theorem Bu.keepN (h : Bu G H b most t) (k : Keep Non H H') : Bu G H' b most t := h.keep k (fun _ _ h => h)
theorem Bu.rise (h : Bu G H b most t) : rises (t.pairs []) = true := BT.pairs_rise h.wf.wf0
theorem Bu.may (h : Bu G H b most t) : ∀ p ∈ t.pairs [], p.1.length ≤ 65535 := fun p hp => (BT.pairs_beg h.wf.wf0 p hp).2
theorem Bu.len (h : Bu G H b most t) : (t.pairs []).length = t.count := BT.pairs_len t []
/-- whose the blocks are behind a call that made some -/
def mkG (G : Role) (H : Heap) (K' : Role) (L' : Lab) : Role := fun x => if x < H.size then G x else if L' x ≠ none then 3 else if K' x ≠ 0 then 2 else 0
theorem mkG_ext {K' : Role} {L' : Lab} (hs : H.size ≤ H'.size) : G.Ext (mkG G H K' L') H H' := ⟨fun x hx => by unfold mkG; rw [if_pos hx], hs⟩
theorem mkG_in {K' : Role} {L' : Lab} (h : G.In H) (hL : L'.In H') (hK : K'.In H') (hs : H.size ≤ H'.size) : (mkG G H K' L').In H' := fun x hx => by
  unfold mkG at hx
  split at hx
  · omega
  · split at hx
    · rename_i h1; exact hL x h1
    · split at hx
      · rename_i h1; exact hK x h1
      · exact absurd rfl hx
theorem mkG_K {K' : Role} {L' : Lab} (h1 : ∀ x, x < H.size → K' x ≠ 0 → G x = 2) (h2 : ∀ x, H.size ≤ x → K' x ≠ 0 → L' x = none) : ∀ x, K' x ≠ 0 → mkG G H K' L' x = 2 := fun x hx => by
  by_cases h : x < H.size
  · simp [mkG, h, h1 x h hx]
  · simp [mkG, h, h2 x (by omega) hx, hx]
theorem mkG_L {K' : Role} {L' : Lab} (h1 : ∀ x, x < H.size → L' x ≠ none → G x = 3) : ∀ x, L' x ≠ none → mkG G H K' L' x = 3 := fun x hx => by
  by_cases h : x < H.size
  · simp [mkG, h, h1 x h hx]
  · simp [mkG, h, hx]
end bu

theorem tree_New (most : Int) {H : Heap} : Ret Try.prog 16 [.int .i64 most] H (fun v H' => ((most < 0 ∨ 1048576 < most) ∧ H = H' ∧ v = .pointer none) ∨ (0 ≤ most ∧ most ≤ 1048576 ∧ Keep Non H H' ∧ ∃ b G, v = ptr b 0 ∧ G.From H.size ∧ Bu G H' b most.toNat .nil)) := by
  refine ret_of Try.func16 rfl rfl rfl rfl ?_
  intro w0
  repeat (first | refine za ?_ | refine zb ?_ | refine zj ?_ | refine zm ?_ | refine zn ?_ | refine zu ?_ | refine zx ?_ | refine zy ?_ | refine zz ?_ | refine zzc ?_ | refine zzd ?_ | refine zzf ?_ | refine zzg ?_)
  refine x_split 5 rfl (fun h1 => ?_) (fun h1 => ?_) <;> (try simp at h1)
  · repeat (first | refine za ?_ | refine zb ?_ | refine zj ?_ | refine zm ?_ | refine zn ?_ | refine zu ?_ | refine zx ?_ | refine zy ?_ | refine zz ?_ | refine zzc ?_ | refine zzd ?_ | refine zzf ?_ | refine zzg ?_)
    exact cw_ret1 rfl rfl (.inl ⟨.inl h1, rfl, rfl⟩)
  · repeat (first | refine za ?_ | refine zb ?_ | refine zj ?_ | refine zm ?_ | refine zn ?_ | refine zu ?_ | refine zx ?_ | refine zy ?_ | refine zz ?_ | refine zzc ?_ | refine zzd ?_ | refine zzf ?_ | refine zzg ?_)
    refine cw_cond rfl (fun h2 => ?_) (fun h2 => ?_) <;> (try simp at h2)
    · repeat (first | refine za ?_ | refine zb ?_ | refine zj ?_ | refine zm ?_ | refine zn ?_ | refine zu ?_ | refine zx ?_ | refine zy ?_ | refine zz ?_ | refine zzc ?_ | refine zzd ?_ | refine zzf ?_ | refine zzg ?_)
      exact cw_ret1 rfl rfl (.inl ⟨.inr h2, rfl, rfl⟩)
    · obtain ⟨m, rfl⟩ := Int.eq_ofNat_of_zero_le (show 0 ≤ most by omega)
      have hnil : Ps H (.slice none 0 0) [] := (Po.nil 0 H).ps
      repeat (first | refine za ?_ | refine zb ?_ | refine zj ?_ | refine zm ?_ | refine zn ?_ | refine zu ?_ | refine zx ?_ | refine zy ?_ | refine zz ?_ | refine zzc ?_ | refine zzd ?_ | refine zzf ?_ | refine zzg ?_)
      refine x_call rfl rfl rfl trivial (model_New hnil (by simp) (by simp)) ?_
      rintro _ H1 ⟨hk1, mb, K, rfl, hF, hM⟩
      refine ⟨trivial, ?_⟩
      repeat (first | refine za ?_ | refine zb ?_ | refine zj ?_ | refine zm ?_ | refine zn ?_ | refine zu ?_ | refine zx ?_ | refine zy ?_ | refine zz ?_ | refine zzc ?_ | refine zzd ?_ | refine zzf ?_ | refine zzg ?_)
      refine x_build (cs := [ptr mb 0, .int .i64 m, .pointer none, .int .i64 0]) rfl rfl rfl (by simp [oneC, Value.oneCell']) rfl trivial ?_
      refine x_box rfl rfl rfl trivial ?_
      intro H2 hn2
      refine ⟨trivial, ?_⟩
      have hs1 := hk1.size
      have hs2 := hn2.size
      repeat (first | refine za ?_ | refine zb ?_ | refine zj ?_ | refine zm ?_ | refine zn ?_ | refine zu ?_ | refine zx ?_ | refine zy ?_ | refine zz ?_ | refine zzc ?_ | refine zzd ?_ | refine zzf ?_ | refine zzg ?_)
      refine cw_ret1 rfl rfl (.inr ⟨by omega, by omega, hn2.old hk1, H1.size, fun x => if x = H1.size then 1 else if K x ≠ 0 then 2 else 0, rfl, fun x hx => ?_, ⟨fun x hx => ?_, if_pos rfl, trivial, Nat.zero_le _, by omega, K, fun _ => none, mb, .pointer none, ?_, hM.keepN hn2.keep, .inl ⟨rfl, rfl⟩, fun _ h => absurd rfl h, fun x hx => ?_, fun _ h => absurd rfl h⟩⟩)
      · have hx : (if x = H1.size then 1 else if K x ≠ 0 then 2 else 0) ≠ 0 := hx
        split at hx
        · omega
        · split at hx
          · rename_i h; exact hF x h
          · exact absurd rfl hx
      · have hx : (if x = H1.size then 1 else if K x ≠ 0 then 2 else 0) ≠ 0 := hx
        split at hx
        · omega
        · split at hx
          · rename_i h; have := hM.kin x h; omega
          · exact absurd rfl hx
      · exact hn2.blk
      · have := hM.kin x hx
        rw [if_neg (by omega), if_pos hx]

section reads
variable {G : Role} {H : Heap} {b most : Nat} {t : BT} {vk : Value} {k : Bytes}
theorem tree_index (hB : Bu G H b most t) : Ret Try.prog 52 [ptr b 0] H (fun v H' => H = H' ∧ ∃ mb K, v = ptr mb 0 ∧ Mo K H mb (t.pairs [])) := by
  obtain ⟨K, L, mb, vr, h1, h2, h3, h4, h5, h6⟩ := hB.row
  have c0 : cel H b 0 = some (ptr mb 0) := by rw [h1.cel]; rfl
  refine ret_of Try.func52 rfl rfl rfl rfl ?_
  intro w0
  repeat (first | refine za ?_ | refine zb ?_ | refine zg ?_ | refine zj ?_ | refine zs ?_ | refine zt ?_ | refine zx ?_ | refine zy ?_ | refine zz ?_ | refine zzc ?_ | refine zzd ?_ | refine zzf ?_ | refine zzg ?_)
  refine x_load rfl rfl (hpmt (c0)) rfl trivial ?_
  repeat (first | refine za ?_ | refine zb ?_ | refine zg ?_ | refine zj ?_ | refine zs ?_ | refine zt ?_ | refine zx ?_ | refine zy ?_ | refine zz ?_ | refine zzc ?_ | refine zzd ?_ | refine zzf ?_ | refine zzg ?_)
  exact cw_ret1 rfl rfl ⟨rfl, mb, K, rfl, h2⟩
theorem tree_Len (hB : Bu G H b most t) : Ret Try.prog 22 [ptr b 0] H (fun v H' => H = H' ∧ v = .int .i64 t.count) := by
  refine ret_of Try.func22 rfl rfl rfl rfl ?_
  intro w0
  repeat (first | refine za ?_ | refine zb ?_ | refine zx ?_ | refine zy ?_ | refine zz ?_ | refine zzd ?_)
  refine x_call rfl rfl rfl trivial (tree_index hB) ?_
  rintro _ _ ⟨rfl, mb, K, rfl, hM⟩
  refine ⟨trivial, ?_⟩
  repeat (first | refine za ?_ | refine zb ?_ | refine zx ?_ | refine zy ?_ | refine zz ?_ | refine zzd ?_)
  refine x_call rfl rfl rfl trivial (model_Len hM) ?_
  rintro _ _ ⟨rfl, rfl⟩
  refine ⟨trivial, ?_⟩
  repeat (first | refine za ?_ | refine zb ?_ | refine zx ?_ | refine zy ?_ | refine zz ?_ | refine zzd ?_)
  exact cw_ret1 rfl rfl ⟨rfl, by rw [hB.len]⟩
theorem tree_Live (hB : Bu G H b most t) : Ret Try.prog 41 [ptr b 0] H (fun v H' => H = H' ∧ v = .int .i64 t.size) := by
  obtain ⟨K, L, mb, vr, h1, h2, h3, h4, h5, h6⟩ := hB.row
  have c3 : cel H b 3 = some (.int .i64 t.size) := by rw [h1.cel]; rfl
  refine ret_of Try.func41 rfl rfl rfl rfl ?_
  intro w0
  repeat (first | refine za ?_ | refine zb ?_ | refine zg ?_ | refine zj ?_ | refine zs ?_ | refine zt ?_ | refine zx ?_ | refine zy ?_ | refine zz ?_ | refine zzc ?_ | refine zzd ?_ | refine zzf ?_ | refine zzg ?_)
  refine x_load rfl rfl (hpmt (c3)) rfl trivial ?_
  repeat (first | refine za ?_ | refine zb ?_ | refine zg ?_ | refine zj ?_ | refine zs ?_ | refine zt ?_ | refine zx ?_ | refine zy ?_ | refine zz ?_ | refine zzc ?_ | refine zzd ?_ | refine zzf ?_ | refine zzg ?_)
  exact cw_ret1 rfl rfl ⟨rfl, rfl⟩
theorem tree_Most (hB : Bu G H b most t) : Ret Try.prog 43 [ptr b 0] H (fun v H' => H = H' ∧ v = .int .i64 most) := by
  obtain ⟨K, L, mb, vr, h1, h2, h3, h4, h5, h6⟩ := hB.row
  have c1 : cel H b 1 = some (.int .i64 most) := by rw [h1.cel]; rfl
  refine ret_of Try.func43 rfl rfl rfl rfl ?_
  intro w0
  repeat (first | refine za ?_ | refine zb ?_ | refine zg ?_ | refine zj ?_ | refine zs ?_ | refine zt ?_ | refine zx ?_ | refine zy ?_ | refine zz ?_ | refine zzc ?_ | refine zzd ?_ | refine zzf ?_ | refine zzg ?_)
  refine x_load rfl rfl (hpmt (c1)) rfl trivial ?_
  repeat (first | refine za ?_ | refine zb ?_ | refine zg ?_ | refine zj ?_ | refine zs ?_ | refine zt ?_ | refine zx ?_ | refine zy ?_ | refine zz ?_ | refine zzc ?_ | refine zzd ?_ | refine zzf ?_ | refine zzg ?_)
  exact cw_ret1 rfl rfl ⟨rfl, rfl⟩
theorem tree_Get (hB : Bu G H b most t) (hc : t.count ≤ 5000) (hK : Bs H vk k) : Ret Try.prog 20 [ptr b 0, vk] H (fun v H' => Keep Non H H' ∧ v = .tuple #[.int .u64 ((getM (t.pairs []) k).getD 0), .bool (there (t.pairs []) k)]) := by
  have hlen := hB.len
  refine ret_of Try.func20 rfl rfl rfl rfl ?_
  intro w0
  repeat (first | refine za ?_ | refine zb ?_ | refine zr ?_ | refine zx ?_ | refine zy ?_ | refine zz ?_ | refine zzd ?_)
  refine x_call rfl rfl rfl trivial (tree_index hB) ?_
  rintro _ _ ⟨rfl, mb, K, rfl, hM⟩
  refine ⟨trivial, ?_⟩
  repeat (first | refine za ?_ | refine zb ?_ | refine zr ?_ | refine zx ?_ | refine zy ?_ | refine zz ?_ | refine zzd ?_)
  refine x_call rfl rfl rfl trivial (model_Get hM hB.rise (by omega) hK) ?_
  rintro _ H1 ⟨hk1, rfl⟩
  refine ⟨trivial, ?_⟩
  repeat (first | refine za ?_ | refine zb ?_ | refine zr ?_ | refine zx ?_ | refine zy ?_ | refine zz ?_ | refine zzd ?_)
  exact cw_ret2 rfl rfl rfl ⟨hk1, rfl⟩
theorem tree_Rank (hB : Bu G H b most t) (hc : t.count ≤ 5000) (hK : Bs H vk k) : Ret Try.prog 27 [ptr b 0, vk] H (fun v H' => Keep Non H H' ∧ v = .int .i64 (rank (t.pairs []) k)) := by
  have hlen := hB.len
  refine ret_of Try.func27 rfl rfl rfl rfl ?_
  intro w0
  repeat (first | refine za ?_ | refine zb ?_ | refine zx ?_ | refine zy ?_ | refine zz ?_ | refine zzd ?_)
  refine x_call rfl rfl rfl trivial (tree_index hB) ?_
  rintro _ _ ⟨rfl, mb, K, rfl, hM⟩
  refine ⟨trivial, ?_⟩
  repeat (first | refine za ?_ | refine zb ?_ | refine zx ?_ | refine zy ?_ | refine zz ?_ | refine zzd ?_)
  refine x_call rfl rfl rfl trivial (model_Rank hM hB.rise (by omega) hK) ?_
  rintro _ H1 ⟨hk1, rfl⟩
  refine ⟨trivial, ?_⟩
  repeat (first | refine za ?_ | refine zb ?_ | refine zx ?_ | refine zy ?_ | refine zz ?_ | refine zzd ?_)
  exact cw_ret1 rfl rfl ⟨hk1, rfl⟩
theorem tree_Floor (hB : Bu G H b most t) (hc : t.count ≤ 5000) (hK : Bs H vk k) : Ret Try.prog 24 [ptr b 0, vk] H (fun v H' => PairA H H' (floorM (t.pairs []) k) v) := by
  have hlen := hB.len
  have hmay := hB.may
  refine ret_of Try.func24 rfl rfl rfl rfl ?_
  intro w0
  repeat (first | refine za ?_ | refine zb ?_ | refine zr ?_ | refine zx ?_ | refine zy ?_ | refine zz ?_ | refine zzd ?_)
  refine x_alloc rfl rfl trivial ?_
  intro H1 hn1
  refine ⟨trivial, ?_⟩
  repeat (first | refine za ?_ | refine zb ?_ | refine zr ?_ | refine zx ?_ | refine zy ?_ | refine zz ?_ | refine zzd ?_)
  refine x_call rfl rfl rfl trivial (tree_index (hB.keepN hn1.keep)) ?_
  rintro _ _ ⟨rfl, mb, K, rfl, hM⟩
  refine ⟨trivial, ?_⟩
  have hkq := Keep.refl Non H1
  repeat (first | refine za ?_ | refine zb ?_ | refine zr ?_ | refine zx ?_ | refine zy ?_ | refine zz ?_ | refine zzd ?_)
  refine x_call rfl rfl rfl trivial (model_Floor hM hB.rise (by omega) (fun p hp => by have := hmay p hp; omega) (hK.keepN hn1.keep)) ?_
  rintro _ Hp ⟨hkp, cp, rfl, hcp, hfp⟩
  refine ⟨trivial, ?_⟩
  repeat (first | refine za ?_ | refine zb ?_ | refine zr ?_ | refine zx ?_ | refine zy ?_ | refine zz ?_ | refine zzd ?_)
  refine x_stores rfl rfl rfl rfl (two_oneC' (isSl_oneC hcp.sl)) ((hn1.blk.keep hkq (fun h => h)).keep hkp (fun h => h)) (by simp) trivial ?_
  intro Hr hBr hkr hsr
  refine ⟨trivial, ?_⟩
  have hsn := hn1.size
  have hsq := hkq.size
  repeat (first | refine za ?_ | refine zb ?_ | refine zr ?_ | refine zx ?_ | refine zy ?_ | refine zz ?_ | refine zzd ?_)
  exact cw_retc2 rfl rfl rfl rfl (hBr.cels 0 2 (by simp [putL])) ⟨keep_at ((hn1.keep.non_trans hkq).non_trans hkp) hkr (Nat.le_refl _), cp, rfl, hcp.keep hkr (fun hc e => by have := hfp hc; omega), fun hc => by have := hfp hc; omega⟩
theorem tree_Ceil (hB : Bu G H b most t) (hc : t.count ≤ 5000) (hK : Bs H vk k) : Ret Try.prog 25 [ptr b 0, vk] H (fun v H' => PairA H H' (ceilM (t.pairs []) k) v) := by
  have hlen := hB.len
  have hmay := hB.may
  refine ret_of Try.func25 rfl rfl rfl rfl ?_
  intro w0
  repeat (first | refine za ?_ | refine zb ?_ | refine zr ?_ | refine zx ?_ | refine zy ?_ | refine zz ?_ | refine zzd ?_)
  refine x_alloc rfl rfl trivial ?_
  intro H1 hn1
  refine ⟨trivial, ?_⟩
  repeat (first | refine za ?_ | refine zb ?_ | refine zr ?_ | refine zx ?_ | refine zy ?_ | refine zz ?_ | refine zzd ?_)
  refine x_call rfl rfl rfl trivial (tree_index (hB.keepN hn1.keep)) ?_
  rintro _ _ ⟨rfl, mb, K, rfl, hM⟩
  refine ⟨trivial, ?_⟩
  have hkq := Keep.refl Non H1
  repeat (first | refine za ?_ | refine zb ?_ | refine zr ?_ | refine zx ?_ | refine zy ?_ | refine zz ?_ | refine zzd ?_)
  refine x_call rfl rfl rfl trivial (model_Ceil hM hB.rise (by omega) (fun p hp => by have := hmay p hp; omega) (hK.keepN hn1.keep)) ?_
  rintro _ Hp ⟨hkp, cp, rfl, hcp, hfp⟩
  refine ⟨trivial, ?_⟩
  repeat (first | refine za ?_ | refine zb ?_ | refine zr ?_ | refine zx ?_ | refine zy ?_ | refine zz ?_ | refine zzd ?_)
  refine x_stores rfl rfl rfl rfl (two_oneC' (isSl_oneC hcp.sl)) ((hn1.blk.keep hkq (fun h => h)).keep hkp (fun h => h)) (by simp) trivial ?_
  intro Hr hBr hkr hsr
  refine ⟨trivial, ?_⟩
  have hsn := hn1.size
  have hsq := hkq.size
  repeat (first | refine za ?_ | refine zb ?_ | refine zr ?_ | refine zx ?_ | refine zy ?_ | refine zz ?_ | refine zzd ?_)
  exact cw_retc2 rfl rfl rfl rfl (hBr.cels 0 2 (by simp [putL])) ⟨keep_at ((hn1.keep.non_trans hkq).non_trans hkp) hkr (Nat.le_refl _), cp, rfl, hcp.keep hkr (fun hc e => by have := hfp hc; omega), fun hc => by have := hfp hc; omega⟩
theorem tree_Longest (hB : Bu G H b most t) (hc : t.count ≤ 5000) (hK : Bs H vk k) : Ret Try.prog 18 [ptr b 0, vk] H (fun v H' => PairA H H' (longM (t.pairs []) k) v) := by
  have hlen := hB.len
  have hmay := hB.may
  refine ret_of Try.func18 rfl rfl rfl rfl ?_
  intro w0
  repeat (first | refine za ?_ | refine zb ?_ | refine zr ?_ | refine zx ?_ | refine zy ?_ | refine zz ?_ | refine zzd ?_)
  refine x_alloc rfl rfl trivial ?_
  intro H1 hn1
  refine ⟨trivial, ?_⟩
  repeat (first | refine za ?_ | refine zb ?_ | refine zr ?_ | refine zx ?_ | refine zy ?_ | refine zz ?_ | refine zzd ?_)
  refine x_call rfl rfl rfl trivial (tree_index (hB.keepN hn1.keep)) ?_
  rintro _ _ ⟨rfl, mb, K, rfl, hM⟩
  refine ⟨trivial, ?_⟩
  have hkq := Keep.refl Non H1
  repeat (first | refine za ?_ | refine zb ?_ | refine zr ?_ | refine zx ?_ | refine zy ?_ | refine zz ?_ | refine zzd ?_)
  refine x_call rfl rfl rfl trivial (model_Longest hM (by omega) (fun p hp => by have := hmay p hp; omega) (hK.keepN hn1.keep)) ?_
  rintro _ Hp ⟨hkp, cp, rfl, hcp, hfp⟩
  refine ⟨trivial, ?_⟩
  repeat (first | refine za ?_ | refine zb ?_ | refine zr ?_ | refine zx ?_ | refine zy ?_ | refine zz ?_ | refine zzd ?_)
  refine x_stores rfl rfl rfl rfl (two_oneC' (isSl_oneC hcp.sl)) ((hn1.blk.keep hkq (fun h => h)).keep hkp (fun h => h)) (by simp) trivial ?_
  intro Hr hBr hkr hsr
  refine ⟨trivial, ?_⟩
  have hsn := hn1.size
  have hsq := hkq.size
  repeat (first | refine za ?_ | refine zb ?_ | refine zr ?_ | refine zx ?_ | refine zy ?_ | refine zz ?_ | refine zzd ?_)
  exact cw_retc2 rfl rfl rfl rfl (hBr.cels 0 2 (by simp [putL])) ⟨keep_at ((hn1.keep.non_trans hkq).non_trans hkp) hkr (Nat.le_refl _), cp, rfl, hcp.keep hkr (fun hc e => by have := hfp hc; omega), fun hc => by have := hfp hc; omega⟩
theorem tree_Select (i : Int) (hB : Bu G H b most t) (hc : t.count ≤ 5000) : Ret Try.prog 26 [ptr b 0, .int .i64 i] H (fun v H' => PairA H H' (selI (t.pairs []) i) v) := by
  have hlen := hB.len
  have hmay := hB.may
  refine ret_of Try.func26 rfl rfl rfl rfl ?_
  intro w0
  repeat (first | refine za ?_ | refine zb ?_ | refine zr ?_ | refine zx ?_ | refine zy ?_ | refine zz ?_ | refine zzd ?_)
  refine x_alloc rfl rfl trivial ?_
  intro H1 hn1
  refine ⟨trivial, ?_⟩
  repeat (first | refine za ?_ | refine zb ?_ | refine zr ?_ | refine zx ?_ | refine zy ?_ | refine zz ?_ | refine zzd ?_)
  refine x_call rfl rfl rfl trivial (tree_index (hB.keepN hn1.keep)) ?_
  rintro _ _ ⟨rfl, mb, K, rfl, hM⟩
  refine ⟨trivial, ?_⟩
  have hkq := Keep.refl Non H1
  repeat (first | refine za ?_ | refine zb ?_ | refine zr ?_ | refine zx ?_ | refine zy ?_ | refine zz ?_ | refine zzd ?_)
  refine x_call rfl rfl rfl trivial (model_Select i hM (by omega) (fun p hp => by have := hmay p hp; omega)) ?_
  rintro _ Hp ⟨hkp, cp, rfl, hcp, hfp⟩
  refine ⟨trivial, ?_⟩
  repeat (first | refine za ?_ | refine zb ?_ | refine zr ?_ | refine zx ?_ | refine zy ?_ | refine zz ?_ | refine zzd ?_)
  refine x_stores rfl rfl rfl rfl (two_oneC' (isSl_oneC hcp.sl)) ((hn1.blk.keep hkq (fun h => h)).keep hkp (fun h => h)) (by simp) trivial ?_
  intro Hr hBr hkr hsr
  refine ⟨trivial, ?_⟩
  have hsn := hn1.size
  have hsq := hkq.size
  repeat (first | refine za ?_ | refine zb ?_ | refine zr ?_ | refine zx ?_ | refine zy ?_ | refine zz ?_ | refine zzd ?_)
  exact cw_retc2 rfl rfl rfl rfl (hBr.cels 0 2 (by simp [putL])) ⟨keep_at ((hn1.keep.non_trans hkq).non_trans hkp) hkr (Nat.le_refl _), cp, rfl, hcp.keep hkr (fun hc e => by have := hfp hc; omega), fun hc => by have := hfp hc; omega⟩
theorem tree_From (m : Int) (hB : Bu G H b most t) (hc : t.count ≤ 5000) (hK : Bs H vk k) : Ret Try.prog 21 [ptr b 0, vk, .int .i64 m] H (fun v H' => Keep Non H H' ∧ Po H.size H' v (fromM (t.pairs []) k m)) := by
  have hlen := hB.len
  have hmay := hB.may
  refine ret_of Try.func21 rfl rfl rfl rfl ?_
  intro w0
  repeat (first | refine za ?_ | refine zb ?_ | refine zx ?_ | refine zy ?_ | refine zz ?_ | refine zzd ?_)
  refine x_call rfl rfl rfl trivial (tree_index hB) ?_
  rintro _ _ ⟨rfl, mb, K, rfl, hM⟩
  refine ⟨trivial, ?_⟩
  repeat (first | refine za ?_ | refine zb ?_ | refine zx ?_ | refine zy ?_ | refine zz ?_ | refine zzd ?_)
  refine x_call rfl rfl rfl trivial (model_From m hM hB.rise (by omega) (fun p hp => by have := hmay p hp; omega) hK) ?_
  rintro v H1 ⟨hk1, hP⟩
  refine ⟨trivial, ?_⟩
  repeat (first | refine za ?_ | refine zb ?_ | refine zx ?_ | refine zy ?_ | refine zz ?_ | refine zzd ?_)
  exact cw_ret1 rfl rfl ⟨hk1, hP⟩
end reads
end Go.Proofs.Ytaloblomncjgkaa.X
