/- The packages key and need: what their functions answer. -/
import Derived.Test.YtaloblomncjgkaaTypes
import Derived.Test.YtaloblomncjgkaaKp
namespace Go.Proofs.Ytaloblomncjgkaa.X
open Go Go.Proofs
set_option linter.unusedVariables false
set_option maxRecDepth 10000

theorem hpmt {H : Heap} {p : Heap → Prop} (h : p H) : ∀ H', H' = H → p H' := fun _ e => e ▸ h

theorem key_May {va : Value} {n : Nat} {H : Heap} (sA : IsSl va n) : Ret Try.prog 46 [va] H (fun v H' => H = H' ∧ v = .bool (decide (n ≤ 65535))) := by
  refine ret_of Try.func46 rfl rfl rfl rfl ?_
  intro w0
  repeat (first | refine za ?_ | refine zb ?_ | refine zj ?_ | refine zl ?_ | refine zx ?_ | refine zy ?_ | refine zz ?_ | refine zzd ?_)
  refine cw_ret1 rfl rfl ⟨rfl, ?_⟩
  (try show Value.int _ _ = Value.int _ _); (try show Value.bool _ = Value.bool _)
  congr 1
  simp
  omega

theorem tdiv9 {i : Int} (hi : -9223372036854775808 ≤ i ∧ i ≤ 9223372036854775807) : -9223372036854775808 ≤ i.tdiv 9 ∧ i.tdiv 9 ≤ 9223372036854775807 := by
  rcases Int.eq_nat_or_neg i with ⟨m, rfl | rfl⟩
  · have hq : (m : Int).tdiv 9 = ((m / 9 : Nat) : Int) := rfl
    omega
  · have hq : (m : Int).tdiv 9 = ((m / 9 : Nat) : Int) := rfl
    rw [Int.neg_tdiv, hq]
    omega

theorem key_Compare {va vb : Value} {la lb : Bytes} {H : Heap} (hA : Bs H va la) (hB : Bs H vb lb) : Ret Try.prog 101 [va, vb] H (fun v H' => H = H' ∧ v = .int .i64 (cmpB la lb)) := by
  have hC : Ret Try.prog 115 [va, vb] H (fun v H' => H = H' ∧ v = .int .i64 (cmpB la lb)) := by
    refine ret_of Try.func115 rfl rfl rfl rfl ?_
    intro w0
    repeat (first | refine za ?_ | refine zb ?_ | refine zx ?_ | refine zy ?_ | refine zz ?_ | refine zzd ?_)
    refine x_bcmp rfl rfl rfl (hpmt hA) (hpmt hB) rfl trivial ?_
    repeat (first | refine za ?_ | refine zb ?_ | refine zx ?_ | refine zy ?_ | refine zz ?_ | refine zzd ?_)
    refine cw_ret1 rfl rfl ⟨rfl, ?_⟩
    (try show Value.int _ _ = Value.int _ _); (try show Value.bool _ = Value.bool _)
    rfl
  refine ret_of Try.func101 rfl rfl rfl rfl ?_
  intro w0
  repeat (first | refine za ?_ | refine zb ?_ | refine zx ?_ | refine zy ?_ | refine zz ?_ | refine zzd ?_)
  refine x_call rfl rfl rfl trivial (hC) ?_
  rintro _ _ ⟨rfl, rfl⟩
  refine ⟨trivial, ?_⟩
  repeat (first | refine za ?_ | refine zb ?_ | refine zx ?_ | refine zy ?_ | refine zz ?_ | refine zzd ?_)
  refine cw_ret1 rfl rfl ⟨rfl, ?_⟩
  (try show Value.int _ _ = Value.int _ _); (try show Value.bool _ = Value.bool _)
  rfl

theorem bytes_Equal {va vb : Value} {la lb : Bytes} {H : Heap} (hA : Bs H va la) (hB : Bs H vb lb) : Ret Try.prog 117 [va, vb] H (fun v H' => H = H' ∧ v = .bool (la == lb)) := by
  refine ret_of Try.func117 rfl rfl rfl rfl ?_
  intro w0
  repeat (first | refine za ?_ | refine zb ?_ | refine zj ?_ | refine zx ?_ | refine zy ?_ | refine zz ?_ | refine zzd ?_)
  refine x_tostr rfl rfl (hpmt hA) rfl trivial ?_
  repeat (first | refine za ?_ | refine zb ?_ | refine zj ?_ | refine zx ?_ | refine zy ?_ | refine zz ?_ | refine zzd ?_)
  refine x_tostr rfl rfl (hpmt hB) rfl trivial ?_
  refine x_seql rfl rfl rfl rfl trivial ?_
  repeat (first | refine za ?_ | refine zb ?_ | refine zj ?_ | refine zx ?_ | refine zy ?_ | refine zz ?_ | refine zzd ?_)
  refine cw_ret1 rfl rfl ⟨rfl, ?_⟩
  (try show Value.int _ _ = Value.int _ _); (try show Value.bool _ = Value.bool _)
  simp

theorem key_Begins {va vb : Value} {la lb : Bytes} {H : Heap} (hA : Bs H va la) (hB : Bs H vb lb) : Ret Try.prog 87 [va, vb] H (fun v H' => H = H' ∧ v = .bool (begins la lb)) := by
  have sA := hA.sl
  have sB := hB.sl
  have cA := sA.cap
  have cB := sB.cap
  have hC : Ret Try.prog 106 [va, vb] H (fun v H' => H = H' ∧ v = .bool (begins la lb)) := by
    refine ret_of Try.func106 rfl rfl rfl rfl ?_
    intro w0
    repeat (first | refine za ?_ | refine zb ?_ | refine zj ?_ | refine zl ?_ | refine zm ?_ | refine zn ?_ | refine zu ?_ | refine zx ?_ | refine zy ?_ | refine zz ?_ | refine zzd ?_)
    refine x_split 10 rfl (fun h1 => ?_) (fun h1 => ?_) <;> (try simp at h1)
    · repeat (first | refine za ?_ | refine zb ?_ | refine zj ?_ | refine zl ?_ | refine zm ?_ | refine zn ?_ | refine zu ?_ | refine zx ?_ | refine zy ?_ | refine zz ?_ | refine zzd ?_)
      refine x_slice_h rfl rfl rfl (by assumption) (by omega) (by omega) rfl trivial ?_
      intro u hu hcut
      have hU := hA.cut (b := lb.length) (a := 0) hu hcut (by omega) (by omega)
      repeat (first | refine za ?_ | refine zb ?_ | refine zj ?_ | refine zl ?_ | refine zm ?_ | refine zn ?_ | refine zu ?_ | refine zx ?_ | refine zy ?_ | refine zz ?_ | refine zzd ?_)
      refine x_call rfl rfl rfl trivial (bytes_Equal hU hB) ?_
      rintro _ _ ⟨rfl, rfl⟩
      refine ⟨trivial, ?_⟩
      repeat (first | refine za ?_ | refine zb ?_ | refine zj ?_ | refine zl ?_ | refine zm ?_ | refine zn ?_ | refine zu ?_ | refine zx ?_ | refine zy ?_ | refine zz ?_ | refine zzd ?_)
      refine cw_ret1 rfl rfl ⟨rfl, ?_⟩
      (try show Value.int _ _ = Value.int _ _); (try show Value.bool _ = Value.bool _)
      simp [begins]
      omega
    · repeat (first | refine za ?_ | refine zb ?_ | refine zj ?_ | refine zl ?_ | refine zm ?_ | refine zn ?_ | refine zu ?_ | refine zx ?_ | refine zy ?_ | refine zz ?_ | refine zzd ?_)
      refine cw_ret1 rfl rfl ⟨rfl, ?_⟩
      (try show Value.int _ _ = Value.int _ _); (try show Value.bool _ = Value.bool _)
      simp [begins]
      omega
  refine ret_of Try.func87 rfl rfl rfl rfl ?_
  intro w0
  repeat (first | refine za ?_ | refine zb ?_ | refine zx ?_ | refine zy ?_ | refine zz ?_ | refine zzd ?_)
  refine x_call rfl rfl rfl trivial (hC) ?_
  rintro _ _ ⟨rfl, rfl⟩
  refine ⟨trivial, ?_⟩
  repeat (first | refine za ?_ | refine zb ?_ | refine zx ?_ | refine zy ?_ | refine zz ?_ | refine zzd ?_)
  refine cw_ret1 rfl rfl ⟨rfl, ?_⟩
  (try show Value.int _ _ = Value.int _ _); (try show Value.bool _ = Value.bool _)
  rfl

theorem slices_Clone {va : Value} {la : Bytes} {H : Heap} (hA : Bs H va la) (hla : la.length ≤ 140737488355328) : Ret Try.prog 47 [va] H (fun v H' => Keep Non H H' ∧ Own 1 H' v la.length (bvs la) ∧ Fresh H v) := by
  have sA := hA.sl
  have cA := sA.cap
  refine ret_of Try.func47 rfl rfl rfl rfl ?_
  intro w0
  repeat (first | refine za ?_ | refine zb ?_ | refine zj ?_ | refine zx ?_ | refine zy ?_ | refine zz ?_ | refine zzc ?_ | refine zzd ?_ | refine zzf ?_ | refine zzg ?_)
  refine x_sleqn rfl rfl rfl (by assumption) rfl trivial ?_
  repeat (first | refine za ?_ | refine zb ?_ | refine zj ?_ | refine zx ?_ | refine zy ?_ | refine zz ?_ | refine zzc ?_ | refine zzd ?_ | refine zzf ?_ | refine zzg ?_)
  refine cw_cond rfl (fun h1 => ?_) (fun h1 => ?_) <;> (try simp at h1)
  · obtain ⟨rfl, h0⟩ := snil_len sA h1
    have : la = [] := by simpa using h0
    subst this
    repeat (first | refine za ?_ | refine zb ?_ | refine zj ?_ | refine zx ?_ | refine zy ?_ | refine zz ?_ | refine zzc ?_ | refine zzd ?_ | refine zzf ?_ | refine zzg ?_)
    exact cw_ret1 rfl rfl ⟨Keep.refl _ _, Own.nil _ _, Fresh.nil _⟩
  · repeat (first | refine za ?_ | refine zb ?_ | refine zj ?_ | refine zx ?_ | refine zy ?_ | refine zz ?_ | refine zzc ?_ | refine zzd ?_ | refine zzf ?_ | refine zzg ?_)
    refine x_buildSlice rfl rfl rfl rfl (by omega) (by simp) rfl trivial ?_
    intro H1 hn
    refine ⟨trivial, ?_⟩
    repeat (first | refine za ?_ | refine zb ?_ | refine zj ?_ | refine zx ?_ | refine zy ?_ | refine zz ?_ | refine zzc ?_ | refine zzd ?_ | refine zzf ?_ | refine zzg ?_)
    have hO : Own 1 H1 (.slice (some ⟨H.size, 0, none⟩) 0 0) 0 [] := Own.new hn rfl (by omega)
    refine x_append (by rfl) (by rfl) (by rfl) rfl rfl rfl hO sA (by rw [bvs_length, Nat.mul_one]) (hA.keepN hn.keep).at_ (bvs_oneC la) (by omega) rfl trivial ?_
    intro v' H2 hap
    refine ⟨trivial, ?_⟩
    repeat (first | refine za ?_ | refine zb ?_ | refine zj ?_ | refine zx ?_ | refine zy ?_ | refine zz ?_ | refine zzc ?_ | refine zzd ?_ | refine zzf ?_ | refine zzg ?_)
    refine cw_ret1 rfl rfl ⟨hap.old (Fresh.mk_ _ _ _) hn.keep, ?_, hap.fresh (Fresh.mk_ _ _ _) (by have := hn.size; omega)⟩
    simpa using hap.own

end Go.Proofs.Ytaloblomncjgkaa.X
