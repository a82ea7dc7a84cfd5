/- Chapter 24, the laws: the line of any operation, and what any line is read as, are the document's: the walk. -/
import Derived.Test.YtbcflfkajkmkdaaDoorRr4
namespace Go.Proofs.YtbcflfkajkmkdaaDoor.X
open Go Go.Proofs Go.RowKit
set_option linter.unusedVariables false
set_option linter.unusedSimpArgs false
set_option maxRecDepth 10000
set_option maxHeartbeats 8000000

theorem read_bd {R : Rdr} (hR : RdrSz R) {s : Bytes} {o : Opn} (h : readG R s = some o) : OpB s.length (s.length + 1) o := by
  have hb := oAt_bd hR (ps := partsC 32 s) (fun p hp => partsC_mem hp) (partsC 32 s).length
  rw [oAt_all] at hb
  have hl := partsC_length 32 s
  unfold readG at h
  split at h
  · cases h
  · injection h with h
    rw [← h]
    exact ⟨hb.key, hb.tol, hb.data, by have := hb.pairs; omega, hb.each⟩
theorem walk_WordsTell {vk vt vd vp : Value} {o : Opn} {s : Bytes} {H : Heap} (hV : OpV H vk vt vd vp o) (ho : OpOk o) (hk64 : I64 o.kind) (hL : Laid24 H) :
    Ret Tryd.prog 5 [.agg (opCells o vk vt vd vp).toArray, strV s] H (Yes H) := by
  have oco := oneC_op (o := o) (isSl_oneC hV.key.sl) (isSl_oneC hV.tov.sl) (isSl_oneC hV.data.sl) (isSl_oneC hV.pairs.sl)
  refine ret_of Tryd.func5 rfl rfl rfl rfl ?_
  intro w0
  refine zrun ?_ ?_
  refine x_box (cs := opCells o vk vt vd vp) rfl rfl rfl trivial ?_
  intro H1 hn1
  refine ⟨trivial, ?_⟩
  have hs1 := hn1.size
  have hBo := hn1.blk
  refine zrun ?_ ?_
  refine x_loads (cs := opCells o vk vt vd vp) rfl rfl rfl (hpmt (hBo.cels 0 12 (by simp [opCells]))) rfl trivial ?_
  refine zrun ?_ ?_
  refine x_buildSliceS1 (c := opCells o vk vt vd vp) (by rfl) rfl rfl (by omega) (by rfl) rfl trivial ?_
  intro H2 hn2
  refine ⟨trivial, ?_⟩
  have hs2 := hn2.size
  have hk02 := hn1.keep.non_trans hn2.keep
  have hL2 := hL.keepN hk02
  have hB2 := hBo.keep hn2.keep (fun h => h)
  have hV2 := hV.keepN hk02
  refine zrun ?_ ?_
  refine x_call rfl rfl rfl trivial (law_GreatOps 1 (by omega) (isSl_some (b := H1.size) (o := 0) (n := 1) (c := 1) (by omega) (by omega)) (fun _ => o) (fun j hj => ⟨vk, vt, vd, vp, fun i hi => by
    obtain rfl : j = 0 := by omega
    show cel H2 H1.size (0 + 0 * 12 + i) = _
    rw [hn2.blk.cel, show 0 + 0 * 12 + i = i by omega], hV2⟩)) ?_
  rintro _ _ ⟨rfl, g, rfl, hg⟩
  refine ⟨trivial, ?_⟩
  cases g with
  | true =>
    refine zrun ?_ ?_
    refine x_call rfl rfl rfl trivial (law_awake hL2) ?_
    rintro _ H4 ⟨hk4, rfl⟩
    refine ⟨trivial, ?_⟩
    refine zrun ?_ ?_
    exact cw_ret1 rfl rfl ⟨rfl, hk02.non_trans hk4⟩
  | false =>
    have hgo : OpGood o := hg rfl 0 (by omega)
    refine zrun ?_ ?_
    refine x_len_str rfl rfl rfl trivial ?_
    rw [strV_size]
    refine zrun ?_ ?_
    by_cases hsl : ((s.length : Nat) : Int) > 2000
    · rw [decide_eq_true hsl]
      refine zrun ?_ ?_
      refine x_call rfl rfl rfl trivial (law_awake hL2) ?_
      rintro _ H4 ⟨hk4, rfl⟩
      refine ⟨trivial, ?_⟩
      refine zrun ?_ ?_
      exact cw_ret1 rfl rfl ⟨rfl, hk02.non_trans hk4⟩
    rw [decide_eq_false hsl]
    refine zrun ?_ ?_
    refine x_call rfl rfl rfl trivial (law_Read (by omega) hL2) ?_
    rintro _ Ha ⟨hka, ba, S, xk, xt, xd, xp, q, c, rfl, hOa, hr⟩
    refine ⟨trivial, ?_⟩
    have hk0a := hk02.non_trans hka
    refine zrun ?_ ?_
    refine x_alloc (zs := zeroOp) rfl rfl trivial ?_
    intro Hb hnb
    refine ⟨trivial, ?_⟩
    refine zrun ?_ ?_
    refine x_stores (cs := opCells q xk xt xd xp) rfl rfl rfl rfl hOa.one hnb.blk (by simp [opCells]) trivial ?_
    intro Hc hBc hkc hsc
    refine ⟨trivial, ?_⟩
    have hBc : Blk Hc Ha.size (opCells q xk xt xd xp) := hBc
    have hkac := keep_at hnb.keep hkc (Nat.le_refl _)
    have hk0c := hk0a.non_trans hkac
    have hOc := hOa.keep hkac (fun _ _ _ _ h => h)
    refine zrun ?_ ?_
    refine x_call rfl rfl rfl trivial (law_ReadR (s := s) (by omega)) ?_
    rintro _ Hd ⟨hkd, yk, yt, yd, yp, q', c', rfl, hVd, hr'⟩
    refine ⟨trivial, ?_⟩
    rw [← read_WR] at hr'
    obtain ⟨hq, hc⟩ : q' = q ∧ c' = c := by
      rcases hr with ⟨h1, h2⟩ | ⟨h1, h2, h3⟩
      · rcases hr' with ⟨h4, h5⟩ | ⟨h4, _, _⟩
        · rw [h1] at h4
          injection h4 with h4
          exact ⟨h4.symm, by rw [h5, h2]⟩
        · rw [h1] at h4; cases h4
      · rcases hr' with ⟨h4, _⟩ | ⟨h4, h5, h6⟩
        · rw [h1] at h4; cases h4
        · exact ⟨by rw [h5, h2], by rw [h6, h3]⟩
    subst hq hc
    have hqb : q'.key.length ≤ 2000 ∧ q'.pairs.length ≤ 2001 ∧ ∀ p ∈ q'.pairs, p.1.length ≤ 2000 := by
      rcases hr with ⟨h1, _⟩ | ⟨_, h2, _⟩
      · have := read_bd rdrW_sz h1
        exact ⟨by have := this.key; omega, by have := this.pairs; omega, fun p hp => by have := this.each p hp; omega⟩
      · subst h2
        exact ⟨by simp, by simp, fun p hp => by cases hp⟩
    clear hr hr'
    have hk0d := hk0c.non_trans hkd
    refine zrun ?_ ?_
    refine x_alloc (zs := zeroOp) rfl rfl trivial ?_
    intro He hne
    refine ⟨trivial, ?_⟩
    refine zrun ?_ ?_
    refine x_stores (cs := opCells q' yk yt yd yp) rfl rfl rfl rfl hVd.one hne.blk (by simp [opCells]) trivial ?_
    intro Hf hBf hkf hsf
    refine ⟨trivial, ?_⟩
    have hBf : Blk Hf Hd.size (opCells q' yk yt yd yp) := hBf
    have hkdf := keep_at hne.keep hkf (Nat.le_refl _)
    have hkcf := hkd.non_trans hkdf
    have hk0f := hk0d.non_trans hkdf
    have hBof := (hB2.keep (hka.non_trans hkac) (fun h => h)).keep hkcf (fun h => h)
    have hBcf := hBc.keep hkcf (fun h => h)
    have hOf := hOc.keep hkcf (fun _ _ _ _ h => h)
    have hVf := hVd.keepN hkdf
    have hkr := Keep.refl Non Hf
    refine zrun ?_ ?_
    refine cw_held (fun _ => Keep Non Hf) ⟨[1, 3, 8], [(0, 0), (2, 0), (6, 0), (7, 0)]⟩ (.op 0 (.op 2 (.op 1 (.op 3 (.op 4 (.op 5 (.op 6 (.op 7 (.op 8 (.op 9 (.op 10 (.op 11 (.op 12 (.op 13 (.op 14 (.op 15 (.nil))))))))))))))))) panicOk_body mixed (by kernel_rfl) ?_
    refine zhrun ?_ ?_
    refine x_loads (cs := opCells o vk vt vd vp) rfl rfl rfl (hpmk rfl fun _ hk => Cels.keep (hBof.cels 0 12 (by simp [opCells])) hk (fun _ h => h)) rfl (okq_load rfl rfl (by assumption)) ?_
    refine zhrun ?_ ?_
    refine x_loads (cs := opCells o vk vt vd vp) rfl rfl rfl (hpmk rfl fun _ hk => Cels.keep (hBof.cels 0 12 (by simp [opCells])) hk (fun _ h => h)) rfl (okq_load rfl rfl (by assumption)) ?_
    refine zhrun ?_ ?_
    refine x_call rfl rfl rfl ⟨rfl, rfl⟩ (law_Say (hV.keepN hk0f) ho hgo.sm hk64 (hL.keepN hk0f)) ?_
    rintro _ Hg ⟨hkg, rfl⟩
    refine ⟨okm_keep hkg (fun _ _ h => h), ?_⟩
    have hkr := hkg
    have hk0g := hk0f.non_trans hkg
    refine zhrun ?_ ?_
    refine x_call rfl rfl rfl ⟨rfl, rfl⟩ (law_SayR (hV.keepN hk0g) ho hgo.sm hk64) ?_
    rintro _ Hh ⟨hkh, rfl⟩
    refine ⟨okm_keep hkh (fun _ _ h => h), ?_⟩
    have hkr := hkg.non_trans hkh
    have hk0h := hk0f.non_trans hkr
    refine zhrun ?_ ?_
    refine x_seqL rfl rfl rfl rfl (okq_reg rfl rfl) ?_
    rw [decide_eq_true rfl]
    refine zhrun ?_ ?_
    refine x_loads (cs := opCells q' xk xt xd xp) rfl rfl rfl (hpmk rfl fun _ hk => Cels.keep (hBcf.cels 0 12 (by simp [opCells])) hk (fun _ h => h)) rfl (okq_load rfl rfl (by assumption)) ?_
    refine zhrun ?_ ?_
    refine x_loads (cs := opCells q' yk yt yd yp) rfl rfl rfl (hpmk rfl fun _ hk => Cels.keep (hBf.cels 0 12 (by simp [opCells])) hk (fun _ h => h)) rfl (okq_load rfl rfl (by assumption)) ?_
    refine zhrun ?_ ?_
    refine x_call rfl rfl rfl ⟨rfl, rfl⟩ (law_SameOp (hOf.opv.keepN hkr) (hVf.keepN hkr)) ?_
    rintro _ Hi ⟨hki, rfl⟩
    refine ⟨okm_keep hki (fun _ _ h => h), ?_⟩
    rw [decide_eq_true rfl]
    refine zhrun ?_ ?_
    rw [show (c' == c') = true from beq_self_eq_true c']
    refine zhrun ?_ ?_
    have hkfi := hkr.non_trans hki
    have hk0i := hk0f.non_trans hkfi
    have hOi := hOf.keep hkfi (fun _ _ _ _ h => h)
    have hBi := hBcf.keep hkfi (fun h => h)
    have k7 : cel Hi Ha.size 7 = some xk := by rw [hBi.cel]; rfl
    have hsa := hk0a.size
    have hlk := hOa.key.lt
    have hka' := hka.size
    refine zrun ?_ ?_
    refine x_load rfl rfl (hpmt (k7)) rfl trivial ?_
    refine zrun ?_ ?_
    refine x_call rfl rfl rfl trivial (law_OverBytes hOi.key (by omega)) ?_
    rintro _ Hj ⟨rfl, hkj⟩
    refine ⟨trivial, ?_⟩
    have hBj := hBi.keep hkj (fun h => by have := hlk h.2; omega)
    have hPj := hOi.prs.keep hkj (fun z hz e => hOi.nk e.2 (by rw [← e.1]; exact hz))
    have hk0j := hk0i.old hkj (fun z hz e => by have := (hOi.kf e.2).1; omega)
    have k11 : cel Hj Ha.size 11 = some xp := by rw [hBj.cel]; rfl
    refine zrun ?_ ?_
    refine x_load rfl rfl (hpmt (k11)) rfl trivial ?_
    refine zrun ?_ ?_
    refine x_call rfl rfl rfl trivial (law_OverPairsS hPj (by omega) (fun p hp => by have := hqb.2.2 p hp; omega)) ?_
    rintro _ Hk ⟨rfl, hkk⟩
    refine ⟨trivial, ?_⟩
    have hk0k := hk0j.old hkk (fun z hz e => by have := (hOi.pS z e).1; omega)
    refine zrun ?_ ?_
    refine x_call rfl rfl rfl trivial (law_awake (hL.keepN hk0k)) ?_
    rintro _ Hl ⟨hkl, rfl⟩
    refine ⟨trivial, ?_⟩
    refine zrun ?_ ?_
    exact cw_ret1 rfl rfl ⟨rfl, hk0k.non_trans hkl⟩
end Go.Proofs.YtbcflfkajkmkdaaDoor.X
