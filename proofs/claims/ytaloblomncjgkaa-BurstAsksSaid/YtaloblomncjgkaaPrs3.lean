/- The plain map of chapter 7, more: what is put, whether keys rise. -/
import Derived.Test.YtaloblomncjgkaaPrs2
namespace Go.Proofs.Ytaloblomncjgkaa.X
open Go Go.Proofs
set_option linter.unusedVariables false
set_option maxRecDepth 10000
set_option maxHeartbeats 1000000

theorem rises_iff (l : List Pr) : rises l = true ↔ ∀ (i : Nat) (p q : Pr), l[i]? = some p → l[i + 1]? = some q → cmpB p.1 q.1 = -1 := by
  induction l with
  | nil => simp [rises]
  | cons a l ih =>
    cases l with
    | nil => simp [rises]
    | cons b l =>
      rw [rises, Bool.and_eq_true, decide_eq_true_eq, ih]
      constructor
      · rintro ⟨h1, h2⟩ i p q hp hq
        cases i with
        | zero => simp at hp hq; subst hp hq; exact h1
        | succ i => exact h2 i p q (by simpa using hp) (by simpa using hq)
      · intro h
        exact ⟨h 0 a b rfl rfl, fun i p q hp hq => h (i + 1) p q (by simpa using hp) (by simpa using hq)⟩

theorem ref_Rises {va : Value} {l : List Pr} {H : Heap} (hA : Ps H va l) : Ret Try.prog 23 [va] H (fun v H' => H = H' ∧ v = .bool (rises l)) := by
  have sA := hA.sl
  have cA := sA.cap
  refine ret_of Try.func23 rfl rfl rfl rfl ?_
  intro w0
  repeat (first | refine za ?_ | refine zb ?_ | refine zc ?_ | refine zd ?_ | refine zj ?_ | refine zl ?_ | refine zt ?_ | refine zv ?_ | refine zw ?_ | refine zx ?_ | refine zy ?_ | refine zz ?_ | refine zza ?_ | refine zzb ?_ | refine zzc ?_ | refine zzd ?_ | refine zze ?_ | refine zzf ?_ | refine zzg ?_)
  refine cw_loop (fun j : Nat => [(0, va), (3, .int .i64 (j + 1 : Nat))]) (fun j H' => H = H' ∧ j ≤ l.length ∧ ∀ (i : Nat) (p q : Pr), i < j → l[i]? = some p → l[i + 1]? = some q → cmpB p.1 q.1 = -1) (fun j => l.length - j) 0 ⟨rfl, rfl, trivial⟩ ⟨rfl, by omega, fun i p q h => by omega⟩ ?_
  rintro j _ ⟨rfl, hj, ht⟩
  repeat (first | refine za ?_ | refine zb ?_ | refine zc ?_ | refine zd ?_ | refine zj ?_ | refine zl ?_ | refine zt ?_ | refine zv ?_ | refine zw ?_ | refine zx ?_ | refine zy ?_ | refine zz ?_ | refine zza ?_ | refine zzb ?_ | refine zzc ?_ | refine zzd ?_ | refine zze ?_ | refine zzf ?_ | refine zzg ?_)
  refine cw_cond rfl (fun h1 => ?_) (fun h1 => ?_) <;> (try simp at h1)
  · obtain ⟨p, hp⟩ := getp (l := l) (j := j) (by omega)
    obtain ⟨q, hq⟩ := getp (l := l) (j := j + 1) (by omega)
    obtain ⟨k1, a1, a2, a3⟩ := hA.at_ _ p hp
    obtain ⟨k2, b1, b2, b3⟩ := hA.at_ _ q hq
    have e1 : ((j + 1 : Nat) : Int) - 1 = (j : Int) := by omega
    repeat (first | refine za ?_ | refine zb ?_ | refine zc ?_ | refine zd ?_ | refine zj ?_ | refine zl ?_ | refine zt ?_ | refine zv ?_ | refine zw ?_ | refine zx ?_ | refine zy ?_ | refine zz ?_ | refine zza ?_ | refine zzb ?_ | refine zzc ?_ | refine zzd ?_ | refine zze ?_ | refine zzf ?_ | refine zzg ?_)
    refine cw_quiet mixed (by kernel_rfl) ?_
    repeat (first | refine za ?_ | refine zb ?_ | refine zc ?_ | refine zd ?_ | refine zj ?_ | refine zl ?_ | refine zt ?_ | refine zv ?_ | refine zw ?_ | refine zx ?_ | refine zy ?_ | refine zz ?_ | refine zza ?_ | refine zzb ?_ | refine zzc ?_ | refine zzd ?_ | refine zze ?_ | refine zzf ?_ | refine zzg ?_)
    refine x_load rfl rfl (hpmt (b1)) rfl trivial ?_
    refine x_tostr rfl rfl (hpmt b3) rfl trivial ?_
    repeat (first | refine za ?_ | refine zb ?_ | refine zc ?_ | refine zd ?_ | refine zj ?_ | refine zl ?_ | refine zt ?_ | refine zv ?_ | refine zw ?_ | refine zx ?_ | refine zy ?_ | refine zz ?_ | refine zza ?_ | refine zzb ?_ | refine zzc ?_ | refine zzd ?_ | refine zze ?_ | refine zzf ?_ | refine zzg ?_)
    rw [e1]
    refine x_load rfl rfl (hpmt (a1)) rfl trivial ?_
    refine x_tostr rfl rfl (hpmt a3) rfl trivial ?_
    refine x_sleq rfl rfl rfl rfl trivial ?_
    rw [str_list, str_list, less_cmp]
    have h3 := cmp_eq3 p.1 q.1
    have h4 := cmp_anti p.1 q.1
    have h5 := @cmp_zero q.1 p.1
    repeat (first | refine za ?_ | refine zb ?_ | refine zc ?_ | refine zd ?_ | refine zj ?_ | refine zl ?_ | refine zt ?_ | refine zv ?_ | refine zw ?_ | refine zx ?_ | refine zy ?_ | refine zz ?_ | refine zza ?_ | refine zzb ?_ | refine zzc ?_ | refine zzd ?_ | refine zze ?_ | refine zzf ?_ | refine zzg ?_)
    refine cw_cond rfl (fun h2 => ?_) (fun h2 => ?_) <;> (try simp at h2)
    · repeat (first | refine za ?_ | refine zb ?_ | refine zc ?_ | refine zd ?_ | refine zj ?_ | refine zl ?_ | refine zt ?_ | refine zv ?_ | refine zw ?_ | refine zx ?_ | refine zy ?_ | refine zz ?_ | refine zza ?_ | refine zzb ?_ | refine zzc ?_ | refine zzd ?_ | refine zze ?_ | refine zzf ?_ | refine zzg ?_)
      refine cw_ret1 rfl rfl ⟨rfl, ?_⟩
      (try show Value.int _ _ = Value.int _ _); (try show Value.bool _ = Value.bool _)
      have : rises l = false := by
        rw [Bool.eq_false_iff]
        intro h
        have := (rises_iff l).1 h j p q hp hq
        rcases h2 with h2 | h2
        · omega
        · have := h5.2 h2
          omega
      rw [this]
    · repeat (first | refine za ?_ | refine zb ?_ | refine zc ?_ | refine zd ?_ | refine zj ?_ | refine zl ?_ | refine zt ?_ | refine zv ?_ | refine zw ?_ | refine zx ?_ | refine zy ?_ | refine zz ?_ | refine zza ?_ | refine zzb ?_ | refine zzc ?_ | refine zzd ?_ | refine zze ?_ | refine zzf ?_ | refine zzg ?_)
      refine nw_round (j + 1) ⟨rfl, rfl, trivial⟩ ⟨rfl, by omega, ?_⟩ (by omega)
      intro i p' q' hi hp' hq'
      by_cases hij : i = j
      · subst hij
        rw [hp] at hp'
        rw [hq] at hq'
        cases hp'
        cases hq'
        rcases h3 with h3 | h3 | h3
        · exact h3
        · exact absurd (h5.1 (by omega)) h2.2
        · exact absurd (by omega) h2.1
      · exact ht i p' q' (by omega) hp' hq'
  · repeat (first | refine za ?_ | refine zb ?_ | refine zc ?_ | refine zd ?_ | refine zj ?_ | refine zl ?_ | refine zt ?_ | refine zv ?_ | refine zw ?_ | refine zx ?_ | refine zy ?_ | refine zz ?_ | refine zza ?_ | refine zzb ?_ | refine zzc ?_ | refine zzd ?_ | refine zze ?_ | refine zzf ?_ | refine zzg ?_)
    refine cw_ret1 rfl rfl ⟨rfl, ?_⟩
    (try show Value.int _ _ = Value.int _ _); (try show Value.bool _ = Value.bool _)
    have : rises l = true := (rises_iff l).2 fun i p q hp hq => ht i p q (by have := (List.getElem?_eq_some_iff.1 hq).1; omega) hp hq
    rw [this]

theorem model_Rises {va : Value} {l : List Pr} {H : Heap} (hA : Ps H va l) : Ret Try.prog 92 [va] H (fun v H' => H = H' ∧ v = .bool (rises l)) := by
  have sA := hA.sl
  have cA := sA.cap
  refine ret_of Try.func92 rfl rfl rfl rfl ?_
  intro w0
  repeat (first | refine za ?_ | refine zb ?_ | refine zc ?_ | refine zd ?_ | refine zj ?_ | refine zl ?_ | refine zt ?_ | refine zv ?_ | refine zw ?_ | refine zx ?_ | refine zy ?_ | refine zz ?_ | refine zza ?_ | refine zzb ?_ | refine zzc ?_ | refine zzd ?_ | refine zze ?_ | refine zzf ?_ | refine zzg ?_)
  refine cw_loop (fun j : Nat => [(0, va), (3, .int .i64 (j + 1 : Nat))]) (fun j H' => H = H' ∧ j ≤ l.length ∧ ∀ (i : Nat) (p q : Pr), i < j → l[i]? = some p → l[i + 1]? = some q → cmpB p.1 q.1 = -1) (fun j => l.length - j) 0 ⟨rfl, rfl, trivial⟩ ⟨rfl, by omega, fun i p q h => by omega⟩ ?_
  rintro j _ ⟨rfl, hj, ht⟩
  repeat (first | refine za ?_ | refine zb ?_ | refine zc ?_ | refine zd ?_ | refine zj ?_ | refine zl ?_ | refine zt ?_ | refine zv ?_ | refine zw ?_ | refine zx ?_ | refine zy ?_ | refine zz ?_ | refine zza ?_ | refine zzb ?_ | refine zzc ?_ | refine zzd ?_ | refine zze ?_ | refine zzf ?_ | refine zzg ?_)
  refine cw_cond rfl (fun h1 => ?_) (fun h1 => ?_) <;> (try simp at h1)
  · obtain ⟨p, hp⟩ := getp (l := l) (j := j) (by omega)
    obtain ⟨q, hq⟩ := getp (l := l) (j := j + 1) (by omega)
    obtain ⟨k1, a1, a2, a3⟩ := hA.at_ _ p hp
    obtain ⟨k2, b1, b2, b3⟩ := hA.at_ _ q hq
    have e1 : ((j + 1 : Nat) : Int) - 1 = (j : Int) := by omega
    have h3 := cmp_eq3 p.1 q.1
    repeat (first | refine za ?_ | refine zb ?_ | refine zc ?_ | refine zd ?_ | refine zj ?_ | refine zl ?_ | refine zt ?_ | refine zv ?_ | refine zw ?_ | refine zx ?_ | refine zy ?_ | refine zz ?_ | refine zza ?_ | refine zzb ?_ | refine zzc ?_ | refine zzd ?_ | refine zze ?_ | refine zzf ?_ | refine zzg ?_)
    refine cw_quiet mixed (by kernel_rfl) ?_
    repeat (first | refine za ?_ | refine zb ?_ | refine zc ?_ | refine zd ?_ | refine zj ?_ | refine zl ?_ | refine zt ?_ | refine zv ?_ | refine zw ?_ | refine zx ?_ | refine zy ?_ | refine zz ?_ | refine zza ?_ | refine zzb ?_ | refine zzc ?_ | refine zzd ?_ | refine zze ?_ | refine zzf ?_ | refine zzg ?_)
    rw [e1]
    refine x_load rfl rfl (hpmt (a1)) rfl trivial ?_
    repeat (first | refine za ?_ | refine zb ?_ | refine zc ?_ | refine zd ?_ | refine zj ?_ | refine zl ?_ | refine zt ?_ | refine zv ?_ | refine zw ?_ | refine zx ?_ | refine zy ?_ | refine zz ?_ | refine zza ?_ | refine zzb ?_ | refine zzc ?_ | refine zzd ?_ | refine zze ?_ | refine zzf ?_ | refine zzg ?_)
    refine x_load rfl rfl (hpmt (b1)) rfl trivial ?_
    refine x_callq rfl rfl rfl ((key_Compare a3 b3).mono fun _ _ h => ⟨h.1.symm, h.2⟩) ?_
    repeat (first | refine za ?_ | refine zb ?_ | refine zc ?_ | refine zd ?_ | refine zj ?_ | refine zl ?_ | refine zt ?_ | refine zv ?_ | refine zw ?_ | refine zx ?_ | refine zy ?_ | refine zz ?_ | refine zza ?_ | refine zzb ?_ | refine zzc ?_ | refine zzd ?_ | refine zze ?_ | refine zzf ?_ | refine zzg ?_)
    refine cw_cond rfl (fun h2 => ?_) (fun h2 => ?_) <;> (try simp at h2)
    · repeat (first | refine za ?_ | refine zb ?_ | refine zc ?_ | refine zd ?_ | refine zj ?_ | refine zl ?_ | refine zt ?_ | refine zv ?_ | refine zw ?_ | refine zx ?_ | refine zy ?_ | refine zz ?_ | refine zza ?_ | refine zzb ?_ | refine zzc ?_ | refine zzd ?_ | refine zze ?_ | refine zzf ?_ | refine zzg ?_)
      refine cw_ret1 rfl rfl ⟨rfl, ?_⟩
      (try show Value.int _ _ = Value.int _ _); (try show Value.bool _ = Value.bool _)
      have : rises l = false := by
        rw [Bool.eq_false_iff]
        intro h
        have := (rises_iff l).1 h j p q hp hq
        omega
      rw [this]
    · repeat (first | refine za ?_ | refine zb ?_ | refine zc ?_ | refine zd ?_ | refine zj ?_ | refine zl ?_ | refine zt ?_ | refine zv ?_ | refine zw ?_ | refine zx ?_ | refine zy ?_ | refine zz ?_ | refine zza ?_ | refine zzb ?_ | refine zzc ?_ | refine zzd ?_ | refine zze ?_ | refine zzf ?_ | refine zzg ?_)
      refine nw_round (j + 1) ⟨rfl, rfl, trivial⟩ ⟨rfl, by omega, ?_⟩ (by omega)
      intro i p' q' hi hp' hq'
      by_cases hij : i = j
      · subst hij
        rw [hp] at hp'
        rw [hq] at hq'
        cases hp'
        cases hq'
        omega
      · exact ht i p' q' (by omega) hp' hq'
  · repeat (first | refine za ?_ | refine zb ?_ | refine zc ?_ | refine zd ?_ | refine zj ?_ | refine zl ?_ | refine zt ?_ | refine zv ?_ | refine zw ?_ | refine zx ?_ | refine zy ?_ | refine zz ?_ | refine zza ?_ | refine zzb ?_ | refine zzc ?_ | refine zzd ?_ | refine zze ?_ | refine zzf ?_ | refine zzg ?_)
    refine cw_ret1 rfl rfl ⟨rfl, ?_⟩
    (try show Value.int _ _ = Value.int _ _); (try show Value.bool _ = Value.bool _)
    have : rises l = true := (rises_iff l).2 fun i p q hp hq => ht i p q (by have := (List.getElem?_eq_some_iff.1 hq).1; omega) hp hq
    rw [this]

theorem ref_Pair {k : Value} {x : Int} {bs : Bytes} {H : Heap} (hK : Bs H k bs) (hl : bs.length ≤ 1000000) : Ret Try.prog 98 [.agg [k, .int .u64 x].toArray] H (fun v H' => Keep Non H H' ∧ ∃ c, v = .agg [c, .int .u64 x].toArray ∧ Own 1 H' c bs.length (bvs bs) ∧ Fresh H c) := by
  refine ret_of Try.func98 rfl rfl rfl rfl ?_
  intro w0
  repeat (first | refine zt ?_ | refine zx ?_ | refine zy ?_ | refine zz ?_ | refine zzd ?_)
  refine x_box rfl rfl rfl trivial ?_
  intro H1 hn1
  refine ⟨trivial, ?_⟩
  repeat (first | refine zt ?_ | refine zx ?_ | refine zy ?_ | refine zz ?_ | refine zzd ?_)
  refine x_alloc rfl rfl trivial ?_
  intro H2 hn2
  refine ⟨trivial, ?_⟩
  have hB1 := hn1.blk.keep hn2.keep (fun h => h)
  have hk2 := hn2.old hn1.keep
  have hK2 := hK.keepN hk2
  have a1 : cel H2 H.size 0 = some k := by rw [hB1.cel]; rfl
  have a2 : cel H2 H.size 1 = some (.int .u64 x) := by rw [hB1.cel]; rfl
  have hkr := Keep.refl Non H2
  repeat (first | refine zt ?_ | refine zx ?_ | refine zy ?_ | refine zz ?_ | refine zzd ?_)
  refine cw_held (fun _ => Keep Non H2) ⟨[2, 6], [(1, 0), (4, 0)]⟩ (.op 0 (.op 1 (.op 3 (.op 4 (.op 2 (.op 5 (.op 6 (.nil)))))))) panicOk_body mixed (by kernel_rfl) ?_
  repeat (first | refine zt ?_ | refine zx ?_ | refine zy ?_ | refine zz ?_ | refine zzd ?_)
  refine x_load rfl rfl (hpmk rfl (fun _ hk => hk.cel a1 (fun h => h))) rfl (okq_load rfl rfl (by assumption)) ?_
  repeat (first | refine zt ?_ | refine zx ?_ | refine zy ?_ | refine zz ?_ | refine zzd ?_)
  refine x_load rfl rfl (hpmk rfl (fun _ hk => hk.cel a2 (fun h => h))) rfl (okq_load rfl rfl (by assumption)) ?_
  refine x_append (by rfl) (by rfl) (by rfl) rfl rfl rfl (Own.nil 1 H2) hK2.sl (by rw [bvs_length, Nat.mul_one]) hK2.at_ (bvs_oneC _) (by omega) rfl ⟨rfl, rfl⟩ ?_
  intro c H3 hap
  have hk3 := hap.old (Fresh.nil H2) (Keep.refl _ _)
  have hf3 := hap.fresh (Fresh.nil H2) (Nat.le_refl _)
  have hown : Own 1 H3 c bs.length (bvs bs) := by simpa using hap.own
  refine ⟨okm_keep hk3 (fun _ _ h => h), ?_⟩
  repeat (first | refine zt ?_ | refine zx ?_ | refine zy ?_ | refine zz ?_ | refine zzd ?_)
  refine x_build (cs := [c, .int .u64 (x)]) rfl rfl rfl (two_oneC (isSl_oneC hown.sl)) rfl (okq_reg rfl rfl) ?_
  refine x_stores rfl rfl rfl rfl (two_oneC' (isSl_oneC hown.sl)) (hn2.blk.keep hk3 (fun h => h)) (by simp) ⟨rfl, rfl⟩ ?_
  intro H4 hB4 hk4 hs4
  refine ⟨okm_free (fun c => by cases c <;> kernel_rfl), ?_⟩
  have hs1 := hn1.size
  have hs2 := hn2.size
  have hk34 := keep_at (hk2.non_trans hk3) hk4 (by omega)
  repeat (first | refine zt ?_ | refine zx ?_ | refine zy ?_ | refine zz ?_ | refine zzd ?_)
  repeat (first | refine zt ?_ | refine zx ?_ | refine zy ?_ | refine zz ?_ | refine zzd ?_)
  refine cw_retc rfl rfl rfl (hB4.cels 0 2 (by simp [putL])) ⟨hk34, c, rfl, hown.keep hk4 (fun hc e => ?_), fun hc => ?_⟩
  · have := hf3 hc
    have : sb c = H1.size := e
    omega
  · have := hf3 hc
    omega
end Go.Proofs.Ytaloblomncjgkaa.X
