/- The plain map of chapter 7, more: what is put, whether keys rise. -/
import Derived.Test.YtkdmcbacofafpaaDoorPrs2
namespace Go.Proofs.YtkdmcbacofafpaaDoor.X
open Go Go.Proofs
set_option linter.unusedVariables false
set_option maxRecDepth 10000
set_option maxHeartbeats 1000000

theorem rises_iff (l : List Pr) : rises l = true ↔ ∀ (i : Nat) (p q : Pr), l[i]? = some p → l[i + 1]? = some q → cmpB p.1 q.1 = -1 := by
  induction l with
  | nil => simp [rises]
  | cons a l ih =>
    cases l with
    | nil => simp [rises]
    | cons b l =>
      rw [rises, Bool.and_eq_true, decide_eq_true_eq, ih]
      constructor
      · rintro ⟨h1, h2⟩ i p q hp hq
        cases i with
        | zero => simp at hp hq; subst hp hq; exact h1
        | succ i => exact h2 i p q (by simpa using hp) (by simpa using hq)
      · intro h
        exact ⟨h 0 a b rfl rfl, fun i p q hp hq => h (i + 1) p q (by simpa using hp) (by simpa using hq)⟩

theorem ref_Rises {va : Value} {l : List Pr} {H : Heap} (hA : Ps H va l) : Ret Tryd.prog 48 [va] H (fun v H' => H = H' ∧ v = .bool (rises l)) := by
  have sA := hA.sl
  have cA := sA.cap
  refine ret_of Tryd.func48 rfl rfl rfl rfl ?_
  intro w0
  refine zrun ?_ ?_
  refine cw_loop (fun j : Nat => [(0, va), (3, .int .i64 (j + 1 : Nat))]) (fun j H' => H = H' ∧ j ≤ l.length ∧ ∀ (i : Nat) (p q : Pr), i < j → l[i]? = some p → l[i + 1]? = some q → cmpB p.1 q.1 = -1) (fun j => l.length - j) 0 ⟨rfl, rfl, trivial⟩ ⟨rfl, by omega, fun i p q h => by omega⟩ ?_
  rintro j _ ⟨rfl, hj, ht⟩
  refine zrun ?_ ?_
  refine cw_cond rfl (fun h1 => ?_) (fun h1 => ?_) <;> (try simp at h1)
  · obtain ⟨p, hp⟩ := getp (l := l) (j := j) (by omega)
    obtain ⟨q, hq⟩ := getp (l := l) (j := j + 1) (by omega)
    obtain ⟨k1, a1, a2, a3⟩ := hA.at_ _ p hp
    obtain ⟨k2, b1, b2, b3⟩ := hA.at_ _ q hq
    have e1 : ((j + 1 : Nat) : Int) - 1 = (j : Int) := by omega
    refine zrun ?_ ?_
    refine cw_quiet mixed (by kernel_rfl) ?_
    refine zrun ?_ ?_
    refine x_load rfl rfl (hpmt (b1)) rfl trivial ?_
    refine x_tostr rfl rfl (hpmt b3) rfl trivial ?_
    refine zrun ?_ ?_
    rw [e1]
    refine x_load rfl rfl (hpmt (a1)) rfl trivial ?_
    refine x_tostr rfl rfl (hpmt a3) rfl trivial ?_
    refine x_sleq rfl rfl rfl rfl trivial ?_
    rw [str_list, str_list, less_cmp]
    have h3 := cmp_eq3 p.1 q.1
    have h4 := cmp_anti p.1 q.1
    have h5 := @cmp_zero q.1 p.1
    refine zrun ?_ ?_
    refine cw_cond rfl (fun h2 => ?_) (fun h2 => ?_) <;> (try simp at h2)
    · refine zrun ?_ ?_
      refine cw_ret1 rfl rfl ⟨rfl, ?_⟩
      (try show Value.int _ _ = Value.int _ _); (try show Value.bool _ = Value.bool _)
      have : rises l = false := by
        rw [Bool.eq_false_iff]
        intro h
        have := (rises_iff l).1 h j p q hp hq
        rcases h2 with h2 | h2
        · omega
        · have := h5.2 h2
          omega
      rw [this]
    · refine zrun ?_ ?_
      refine nw_round (j + 1) ⟨rfl, rfl, trivial⟩ ⟨rfl, by omega, ?_⟩ (by omega)
      intro i p' q' hi hp' hq'
      by_cases hij : i = j
      · subst hij
        rw [hp] at hp'
        rw [hq] at hq'
        cases hp'
        cases hq'
        rcases h3 with h3 | h3 | h3
        · exact h3
        · exact absurd (h5.1 (by omega)) h2.2
        · exact absurd (by omega) h2.1
      · exact ht i p' q' (by omega) hp' hq'
  · refine zrun ?_ ?_
    refine cw_ret1 rfl rfl ⟨rfl, ?_⟩
    (try show Value.int _ _ = Value.int _ _); (try show Value.bool _ = Value.bool _)
    have : rises l = true := (rises_iff l).2 fun i p q hp hq => ht i p q (by have := (List.getElem?_eq_some_iff.1 hq).1; omega) hp hq
    rw [this]

theorem model_Rises {va : Value} {l : List Pr} {H : Heap} (hA : Ps H va l) : Ret Tryd.prog 63 [va] H (fun v H' => H = H' ∧ v = .bool (rises l)) := by
  have sA := hA.sl
  have cA := sA.cap
  refine ret_of Tryd.func63 rfl rfl rfl rfl ?_
  intro w0
  refine zrun ?_ ?_
  refine cw_loop (fun j : Nat => [(0, va), (3, .int .i64 (j + 1 : Nat))]) (fun j H' => H = H' ∧ j ≤ l.length ∧ ∀ (i : Nat) (p q : Pr), i < j → l[i]? = some p → l[i + 1]? = some q → cmpB p.1 q.1 = -1) (fun j => l.length - j) 0 ⟨rfl, rfl, trivial⟩ ⟨rfl, by omega, fun i p q h => by omega⟩ ?_
  rintro j _ ⟨rfl, hj, ht⟩
  refine zrun ?_ ?_
  refine cw_cond rfl (fun h1 => ?_) (fun h1 => ?_) <;> (try simp at h1)
  · obtain ⟨p, hp⟩ := getp (l := l) (j := j) (by omega)
    obtain ⟨q, hq⟩ := getp (l := l) (j := j + 1) (by omega)
    obtain ⟨k1, a1, a2, a3⟩ := hA.at_ _ p hp
    obtain ⟨k2, b1, b2, b3⟩ := hA.at_ _ q hq
    have e1 : ((j + 1 : Nat) : Int) - 1 = (j : Int) := by omega
    have h3 := cmp_eq3 p.1 q.1
    refine zrun ?_ ?_
    refine cw_quiet mixed (by kernel_rfl) ?_
    refine zrun ?_ ?_
    rw [e1]
    refine x_load rfl rfl (hpmt (a1)) rfl trivial ?_
    refine zrun ?_ ?_
    refine x_load rfl rfl (hpmt (b1)) rfl trivial ?_
    refine x_callq rfl rfl rfl ((key_Compare a3 b3).mono fun _ _ h => ⟨h.1.symm, h.2⟩) ?_
    refine zrun ?_ ?_
    refine cw_cond rfl (fun h2 => ?_) (fun h2 => ?_) <;> (try simp at h2)
    · refine zrun ?_ ?_
      refine cw_ret1 rfl rfl ⟨rfl, ?_⟩
      (try show Value.int _ _ = Value.int _ _); (try show Value.bool _ = Value.bool _)
      have : rises l = false := by
        rw [Bool.eq_false_iff]
        intro h
        have := (rises_iff l).1 h j p q hp hq
        omega
      rw [this]
    · refine zrun ?_ ?_
      refine nw_round (j + 1) ⟨rfl, rfl, trivial⟩ ⟨rfl, by omega, ?_⟩ (by omega)
      intro i p' q' hi hp' hq'
      by_cases hij : i = j
      · subst hij
        rw [hp] at hp'
        rw [hq] at hq'
        cases hp'
        cases hq'
        omega
      · exact ht i p' q' (by omega) hp' hq'
  · refine zrun ?_ ?_
    refine cw_ret1 rfl rfl ⟨rfl, ?_⟩
    (try show Value.int _ _ = Value.int _ _); (try show Value.bool _ = Value.bool _)
    have : rises l = true := (rises_iff l).2 fun i p q hp hq => ht i p q (by have := (List.getElem?_eq_some_iff.1 hq).1; omega) hp hq
    rw [this]

end Go.Proofs.YtkdmcbacofafpaaDoor.X
