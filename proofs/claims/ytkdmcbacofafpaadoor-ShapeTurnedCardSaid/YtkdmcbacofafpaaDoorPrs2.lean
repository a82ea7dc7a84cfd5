/- The plain map of chapter 7, and copies of pairs: what these functions answer. -/
import Derived.Test.YtkdmcbacofafpaaDoorPrs
namespace Go.Proofs.YtkdmcbacofafpaaDoor.X
open Go Go.Proofs
set_option linter.unusedVariables false
set_option maxRecDepth 10000
set_option maxHeartbeats 1000000

theorem law_Copied {va : Value} {l : List Pr} {H : Heap} (hA : Ps H va l) (hl : l.length ≤ 100000) (hk : ∀ p ∈ l, p.1.length ≤ 1000000) : Ret Tryd.prog 20 [va] H (fun v H' => Keep Non H H' ∧ Po H.size H' v l) := by
  have sA := hA.sl
  have cA := sA.cap
  refine ret_of Tryd.func20 rfl rfl rfl rfl ?_
  intro w0
  refine zrun ?_ ?_
  refine cw_loop (fun s : Nat × Value => [(0, va), (3, s.2), (4, .int .i64 s.1)]) (fun s H' => s.1 ≤ l.length ∧ Keep Non H H' ∧ Po H.size H' s.2 (l.take s.1)) (fun s => l.length - s.1) (0, _) ⟨rfl, rfl, rfl, trivial⟩ ⟨Nat.zero_le _, Keep.refl _ _, Po.nil _ _⟩ ?_
  rintro ⟨j, v⟩ H1 ⟨hj, hk1, hP⟩
  simp only at hj hP
  refine zrun ?_ ?_
  refine cw_cond rfl (fun h1 => ?_) (fun h1 => ?_) <;> (try simp at h1)
  · obtain ⟨p, hp⟩ := getp (l := l) h1
    obtain ⟨k, b1, b2, b3⟩ := hA.at_ j p hp
    have a1 := hk1.cel b1 (fun h => h)
    have a2 := hk1.cel b2 (fun h => h)
    have a3 := b3.keepN hk1
    have hlt := lt_of_cel b1
    have hpl := hk p (List.mem_of_getElem? hp)
    obtain ⟨q, hq, ho, hd⟩ := hP.row
    have hlj : (l.take j).length = j := by simp; omega
    have hkr := Keep.refl (fun b => H.size ≤ b) H1
    refine zrun ?_ ?_
    refine cw_held (fun _ => Keep (fun b => H.size ≤ b) H1) ⟨[6, 13, 14], [(5, 0), (11, 0)]⟩ (.op 0 (.op 1 (.op 2 (.op 3 (.op 4 (.op 5 (.op 7 (.op 8 (.op 9 (.op 10 (.op 11 (.op 6 (.op 12 (.op 13 (.op 14 (.op 15 (.nil))))))))))))))))) panicOk_body mixed (by kernel_rfl) ?_
    refine zhrun ?_ ?_
    refine x_load rfl rfl (hpmk rfl (fun _ hk => hk.cel a1 (by omega))) rfl (okq_load rfl rfl (by assumption)) ?_
    refine zhrun ?_ ?_
    refine x_load rfl rfl (hpmk rfl (fun _ hk => hk.cel a2 (by omega))) rfl (okq_load rfl rfl (by assumption)) ?_
    refine x_append (by rfl) (by rfl) (by rfl) rfl rfl rfl (Own.nil 1 H1) a3.sl (by rw [bvs_length, Nat.mul_one]) a3.at_ (bvs_oneC _) (by omega) rfl ⟨rfl, rfl⟩ ?_
    intro c H2 hap
    have hk2 := hap.old (Fresh.nil H1) (Keep.refl _ _)
    have hf2 := hap.fresh (Fresh.nil H1) (Nat.le_refl _)
    have hown : Own 1 H2 c p.1.length (bvs p.1) := by simpa using hap.own
    refine ⟨okm_keep hk2 (fun _ _ h => h.elim), ?_⟩
    refine zhrun ?_ ?_
    refine x_build (cs := [c, .int .u64 (p.2)]) rfl rfl rfl (two_oneC (isSl_oneC hown.sl)) rfl (okq_reg rfl rfl) ?_
    refine x_buildSliceS1 (by rfl) rfl rfl (by omega) (by rfl) rfl ⟨rfl, rfl⟩ ?_
    intro H3 hn3
    have hk3 := hn3.old hk2
    refine ⟨okm_keep hn3.keep (fun _ _ h => h.elim), ?_⟩
    refine x_append (v := v) (by rfl) (by rfl) (by rfl) rfl rfl rfl (ho.keep hk3 (fun _ h => h)) (isSl_some (Nat.le_refl _) (by omega)) (m := 1) (cx := [c, .int .u64 p.2]) rfl (hn3.blk.cels 0 2 (by simp)) (two_oneC' (isSl_oneC hown.sl)) (by omega) rfl ⟨rfl, rfl⟩ ?_
    intro v' H4 hap4
    have hP4 : Po H.size H4 v' (l.take j ++ [p]) := Po.snoc hP.fresh hq ho hd hk1.size hk3 (hown.keep hn3.keep (fun _ h => h)) hf2 hap4
    have hk4 : Keep Non H H4 := (hk1.non_trans hk3).old hap4.keep (fun b hb e => by have := hP.fresh (by omega); have := e.1; omega)
    refine ⟨okm_keep hap4.keep (fun b _ e => by have := hP.fresh (by omega); have := e.1; omega), ?_⟩
    refine zhrun ?_ ?_
    refine zrun ?_ ?_
    refine nw_round (j + 1, v') ⟨rfl, rfl, rfl, trivial⟩ ⟨by show j + 1 ≤ _; omega, hk4, ?_⟩ (by show l.length - (j + 1) < l.length - j; omega)
    show Po H.size H4 v' (l.take (j + 1))
    rw [List.take_add_one, hp]
    exact hP4
  · have hje : j = l.length := by omega
    subst hje
    rw [List.take_length] at hP
    refine zrun ?_ ?_
    exact cw_ret1 rfl rfl ⟨hk1, hP⟩

/-- a map of chapter 7: where it stands, its pairs -/
structure Mp (H : Heap) (b : Nat) (l : List Pr) : Prop where
  row : ∃ u, Blk H b [u] ∧ Ps H u l
theorem str_list (l : Bytes) : ByteArray.toList ⟨l.toArray⟩ = l := by rw [Lib.toList_data]

theorem ref_Rank {b : Nat} {vk : Value} {l : List Pr} {k : Bytes} {H : Heap} (hM : Mp H b l) (hK : Bs H vk k) : Ret Tryd.prog 50 [ptr b 0, vk] H (fun v H' => H = H' ∧ v = .int .i64 (rank l k)) := by
  obtain ⟨u, hB, hP⟩ := hM.row
  have sU := hP.sl
  have cU := sU.cap
  have hc0 : cel H b 0 = some u := by rw [hB.cel]; rfl
  refine ret_of Tryd.func50 rfl rfl rfl rfl ?_
  intro w0
  refine zrun ?_ ?_
  refine cw_loop (fun j : Nat => [(0, ptr b 0), (1, vk), (5, .int .i64 j)]) (fun j H' => H = H' ∧ j ≤ rank l k) (fun j => l.length - j) 0 ⟨rfl, rfl, rfl, trivial⟩ ⟨rfl, by omega⟩ ?_
  rintro j _ ⟨rfl, hj⟩
  have hle := rank_le l k
  refine zrun ?_ ?_
  refine cw_cut (fun c : Bool => [(0, ptr b 0), (1, vk), (5, .int .i64 j), (26, .bool c)]) (fun c H' => H = H' ∧ (c = true → j + 1 ≤ rank l k ∧ j < l.length) ∧ (c = false → rank l k = j)) ?_ ?_
  · refine cw_quiet mixed (by kernel_rfl) ?_
    refine zrun ?_ ?_
    refine x_load rfl rfl (hpmt (hc0)) rfl trivial ?_
    refine zrun ?_ ?_
    refine x_split 13 rfl (fun h1 => ?_) (fun h1 => ?_) <;> (try simp at h1)
    · obtain ⟨p, hp⟩ := getp (l := l) h1
      obtain ⟨kk, a1, a2, a3⟩ := hP.at_ j p hp
      have hst := rank_step hj hp
      refine zrun ?_ ?_
      refine x_load rfl rfl (hpmt (hc0)) rfl trivial ?_
      refine zrun ?_ ?_
      refine x_load rfl rfl (hpmt (a1)) rfl trivial ?_
      refine x_tostr rfl rfl (hpmt a3) rfl trivial ?_
      refine zrun ?_ ?_
      refine x_tostr rfl rfl (hpmt hK) rfl trivial ?_
      refine x_slss rfl rfl rfl rfl trivial ?_
      rw [str_list, str_list, less_cmp]
      refine zrun ?_ ?_
      refine nw_meet (decide (cmpB p.1 k = -1)) ⟨rfl, rfl, rfl, rfl, trivial⟩ ⟨rfl, ?_, ?_⟩
      · intro h3
        exact ⟨hst.1 (by simpa using h3), h1⟩
      · intro h3
        exact hst.2 (by simpa using h3)
    · refine zrun ?_ ?_
      refine nw_meet false ⟨rfl, rfl, rfl, rfl, trivial⟩ ⟨rfl, by simp, fun _ => by omega⟩
  · rintro c _ ⟨rfl, ht, hf⟩
    cases c with
    | true =>
      have := ht rfl
      refine zrun ?_ ?_
      refine nw_round (j + 1) ⟨rfl, rfl, rfl, trivial⟩ ⟨rfl, this.1⟩ (by omega)
    | false =>
      have := hf rfl
      refine zrun ?_ ?_
      refine cw_ret1 rfl rfl ⟨rfl, ?_⟩
      (try show Value.int _ _ = Value.int _ _); (try show Value.bool _ = Value.bool _)
      rw [this]

theorem ref_Find {b : Nat} {vk : Value} {l : List Pr} {k : Bytes} {H : Heap} (hM : Mp H b l) (hK : Bs H vk k) : Ret Tryd.prog 37 [ptr b 0, vk] H (fun v H' => H = H' ∧ v = .tuple #[.int .i64 (rank l k), .bool (there l k)]) := by
  obtain ⟨u, hB, hP⟩ := hM.row
  have sU := hP.sl
  have cU := sU.cap
  have hc0 : cel H b 0 = some u := by rw [hB.cel]; rfl
  have hle := rank_le l k
  refine ret_of Tryd.func37 rfl rfl rfl rfl ?_
  intro w0
  refine zrun ?_ ?_
  refine x_call rfl rfl rfl trivial (ref_Rank hM hK) ?_
  rintro _ _ ⟨rfl, rfl⟩
  refine ⟨trivial, ?_⟩
  refine zrun ?_ ?_
  refine cw_quiet mixed (by kernel_rfl) ?_
  refine zrun ?_ ?_
  refine x_load rfl rfl (hpmt (hc0)) rfl trivial ?_
  refine zrun ?_ ?_
  refine x_split 18 rfl (fun h1 => ?_) (fun h1 => ?_) <;> (try simp at h1)
  · obtain ⟨p, hp⟩ := getp (l := l) h1
    obtain ⟨kk, a1, a2, a3⟩ := hP.at_ _ p hp
    refine zrun ?_ ?_
    refine x_load rfl rfl (hpmt (hc0)) rfl trivial ?_
    refine zrun ?_ ?_
    refine x_load rfl rfl (hpmt (a1)) rfl trivial ?_
    refine x_tostr rfl rfl (hpmt a3) rfl trivial ?_
    refine zrun ?_ ?_
    refine x_tostr rfl rfl (hpmt hK) rfl trivial ?_
    refine x_seql rfl rfl rfl rfl trivial ?_
    rw [str_list, str_list]
    refine zrun ?_ ?_
    refine cw_ret2 rfl rfl rfl ⟨rfl, ?_⟩
    simp [there, hp]
  · refine zrun ?_ ?_
    refine cw_ret2 rfl rfl rfl ⟨rfl, ?_⟩
    have : l[rank l k]? = none := List.getElem?_eq_none (by omega)
    simp [there, this]

end Go.Proofs.YtkdmcbacofafpaaDoor.X
