/- Chapter 10's document, for burst tries: what pairs may take. -/
import Derived.Test.YtaloblomncjgkaaBtr4
namespace Go.Proofs.Ytaloblomncjgkaa.X
open Go Go.Proofs
set_option linter.unusedVariables false
set_option linter.unusedSimpArgs false
set_option maxRecDepth 10000

/-- what pairs may take -/
def needs (l : List Pr) : Nat := (l.map fun p => 2 * p.1.length + 12).sum
theorem needs_take {l : List Pr} {i : Nat} {p : Pr} (h : l[i]? = some p) : needs (l.take (i + 1)) = needs (l.take i) + (2 * p.1.length + 12) := by
  unfold needs
  rw [List.take_add_one, h]
  simp
theorem needs_le (l : List Pr) (i : Nat) : needs (l.take i) ≤ needs l := by
  unfold needs
  conv => rhs; rw [← List.take_append_drop i l]
  rw [List.map_append, List.sum_append]
  omega
theorem needs_bd {l : List Pr} {g : Nat} (h : ∀ p ∈ l, p.1.length ≤ g) : needs l ≤ l.length * (2 * g + 12) := by
  induction l with
  | nil => simp [needs]
  | cons a l ih =>
    have h1 := h a (List.mem_cons_self ..)
    have h2 := ih fun p hp => h p (List.mem_cons_of_mem _ hp)
    have e : needs (a :: l) = (2 * a.1.length + 12) + needs l := by simp [needs]
    rw [e, List.length_cons, Nat.add_mul, Nat.one_mul]
    omega

theorem ref10_Put4 {n : Nat} {H : Heap} (h : n ≤ 65535) : Ret Try.prog 81 [.int .i64 4, .int .i64 n] H (fun v H' => H = H' ∧ v = .int .i64 ((2 * n + 12 : Nat) : Int)) := by
  refine ret_of Try.func81 rfl rfl rfl rfl ?_
  intro w0
  repeat (first | refine za ?_ | refine zb ?_ | refine zc ?_ | refine zi ?_ | refine zj ?_ | refine zm ?_ | refine zn ?_ | refine zu ?_ | refine zx ?_ | refine zy ?_ | refine zz ?_ | refine zza ?_ | refine zzb ?_ | refine zzc ?_ | refine zzd ?_ | refine zzf ?_ | refine zzg ?_)
  refine cw_cond rfl (fun h2 => ?_) (fun h2 => ?_) <;> (try simp at h2)
  · omega
  · repeat (first | refine za ?_ | refine zb ?_ | refine zc ?_ | refine zi ?_ | refine zj ?_ | refine zm ?_ | refine zn ?_ | refine zu ?_ | refine zx ?_ | refine zy ?_ | refine zz ?_ | refine zza ?_ | refine zzb ?_ | refine zzc ?_ | refine zzd ?_ | refine zzf ?_ | refine zzg ?_)
    exact cw_ret1 rfl rfl ⟨rfl, by simp⟩
theorem ref10_Build4 {va : Value} {l : List Pr} {H : Heap} (hA : Ps H va l) (hk : ∀ p ∈ l, p.1.length ≤ 65535) (hl : l.length ≤ 10000) : Ret Try.prog 40 [.int .i64 4, va] H (fun v H' => H = H' ∧ v = .int .i64 (needs l)) := by
  have sA := hA.sl
  have cA := sA.cap
  have hbd := needs_bd hk
  refine ret_of Try.func40 rfl rfl rfl rfl ?_
  intro w0
  repeat (first | refine za ?_ | refine zb ?_ | refine zc ?_ | refine zj ?_ | refine zl ?_ | refine zt ?_ | refine zv ?_ | refine zw ?_ | refine zx ?_ | refine zy ?_ | refine zz ?_ | refine zza ?_ | refine zzb ?_ | refine zzc ?_ | refine zzd ?_ | refine zze ?_ | refine zzf ?_ | refine zzg ?_)
  refine cw_loop (fun s : Nat × Nat => [(0, .int .i64 4), (1, va), (5, .int .i64 s.2), (6, .int .i64 s.1)]) (fun s H' => H = H' ∧ s.1 ≤ l.length ∧ s.2 = needs (l.take s.1)) (fun s => l.length - s.1) (0, 0) (by repeat (first | exact True.intro | refine ⟨rfl, ?_⟩)) ⟨rfl, Nat.zero_le _, by simp [needs]⟩ ?_
  rintro ⟨j, n⟩ _ ⟨rfl, hj, hn⟩
  simp only at hj hn ⊢
  have hnle := needs_le l j
  repeat (first | refine za ?_ | refine zb ?_ | refine zc ?_ | refine zj ?_ | refine zl ?_ | refine zt ?_ | refine zv ?_ | refine zw ?_ | refine zx ?_ | refine zy ?_ | refine zz ?_ | refine zza ?_ | refine zzb ?_ | refine zzc ?_ | refine zzd ?_ | refine zze ?_ | refine zzf ?_ | refine zzg ?_)
  refine cw_cond rfl (fun h1 => ?_) (fun h1 => ?_) <;> (try simp at h1)
  · obtain ⟨p, hp⟩ := getp (l := l) h1
    obtain ⟨kk, a1, a2, a3⟩ := hA.at_ j p hp
    have hpl := hk p (List.mem_of_getElem? hp)
    have sK := a3.sl
    have hnx := needs_take hp
    have hnle2 := needs_le l (j + 1)
    repeat (first | refine za ?_ | refine zb ?_ | refine zc ?_ | refine zj ?_ | refine zl ?_ | refine zt ?_ | refine zv ?_ | refine zw ?_ | refine zx ?_ | refine zy ?_ | refine zz ?_ | refine zza ?_ | refine zzb ?_ | refine zzc ?_ | refine zzd ?_ | refine zze ?_ | refine zzf ?_ | refine zzg ?_)
    refine x_load rfl rfl (hpmt (a1)) rfl trivial ?_
    repeat (first | refine za ?_ | refine zb ?_ | refine zc ?_ | refine zj ?_ | refine zl ?_ | refine zt ?_ | refine zv ?_ | refine zw ?_ | refine zx ?_ | refine zy ?_ | refine zz ?_ | refine zza ?_ | refine zzb ?_ | refine zzc ?_ | refine zzd ?_ | refine zze ?_ | refine zzf ?_ | refine zzg ?_)
    refine x_call rfl rfl rfl trivial (ref10_Put4 hpl) ?_
    rintro _ _ ⟨rfl, rfl⟩
    refine ⟨trivial, ?_⟩
    repeat (first | refine za ?_ | refine zb ?_ | refine zc ?_ | refine zj ?_ | refine zl ?_ | refine zt ?_ | refine zv ?_ | refine zw ?_ | refine zx ?_ | refine zy ?_ | refine zz ?_ | refine zza ?_ | refine zzb ?_ | refine zzc ?_ | refine zzd ?_ | refine zze ?_ | refine zzf ?_ | refine zzg ?_)
    refine nw_round (j + 1, n + (2 * p.1.length + 12)) (by repeat (first | exact True.intro | refine ⟨rfl, ?_⟩)) ⟨rfl, by simp only; omega, by simp only; omega⟩ (by simp only; omega)
  · have hjl : j = l.length := by omega
    subst hjl
    rw [List.take_length] at hn
    subst hn
    repeat (first | refine za ?_ | refine zb ?_ | refine zc ?_ | refine zj ?_ | refine zl ?_ | refine zt ?_ | refine zv ?_ | refine zw ?_ | refine zx ?_ | refine zy ?_ | refine zz ?_ | refine zza ?_ | refine zzb ?_ | refine zzc ?_ | refine zzd ?_ | refine zze ?_ | refine zzf ?_ | refine zzg ?_)
    exact cw_ret1 rfl rfl ⟨rfl, rfl⟩
theorem buildT_size {l : List Pr} (h : BT.Ok [] l) : (buildT l).size ≤ needs l := by
  unfold buildT
  split
  · exact Nat.zero_le _
  · rename_i hne
    refine Nat.le_trans (BT.built_size 70000 (by simp) h hne) ?_
    unfold needs
    simp only [List.length_nil, Nat.sub_zero]
    clear h hne
    induction l with
    | nil => simp
    | cons a l ih => simp only [List.map_cons, List.sum_cons]; omega
end Go.Proofs.Ytaloblomncjgkaa.X
