/- Rows of pairs as the library turns them: what slices.Insert, slices.Delete and slices.BinarySearchFunc answer. -/
import Derived.Test.YtaloblomncjgkaaPrs4
import Derived.Test.YtaloblomncjgkaaKmrg2
namespace Go.Proofs.Ytaloblomncjgkaa.X
open Go Go.Proofs
set_option linter.unusedVariables false
set_option linter.unusedSimpArgs false
set_option maxRecDepth 10000
set_option maxHeartbeats 2000000

instance ovl : IsOv Try.prog 103 22 33 := ⟨_, 4, Try.func103, by kernel_rfl, rfl, by kernel_rfl, by kernel_rfl⟩

theorem slices_Insert {v kk : Value} {q : List (Value × Int)} {i a : Nat} {x : Int} {H : Heap} (hv : Own 2 H v q.length (pcs q)) (hi : i ≤ q.length) (hq : q.length ≤ 100000) (hqo : ∀ z ∈ pcs q, oneC z = true) (hk : oneC kk = true)
    (hx : ∃ T, H[a]? = some (.cells [kk, .int .u64 x].toArray T (0, 0))) (ha : 0 < sc v → a ≠ sb v) :
    Ret Try.prog 84 [v, .int .i64 i, .slice (some ⟨a, 0, none⟩) 1 1] H (fun r H' => Own 2 H' r (q.length + 1) (pcs (q.take i ++ (kk, x) :: q.drop i)) ∧ Keep (fun z => z = sb v ∧ 0 < sc v) H H' ∧ ((sb r = sb v ∧ 0 < sc v) ∨ H.size ≤ sb r)) := by
  have sV := hv.sl
  have cV := sV.cap
  have sX : IsSl (.slice (some ⟨a, 0, none⟩) 1 1) 1 := isSl_some (by omega) (by omega)
  have hxl := pcs_length q
  have cX : Cels H a 0 [kk, .int .u64 x] := by
    obtain ⟨T, hx⟩ := hx
    exact cels_two (by rw [cel_of_blk hx]; rfl) (by rw [cel_of_blk hx]; rfl)
  have hal : a < H.size := by obtain ⟨T, hx⟩ := hx; exact lt_of_blk hx
  have hxo : ∀ z ∈ [kk, .int .u64 x], oneC z = true := two_oneC' hk
  refine ret_of Try.func84 rfl rfl rfl rfl ?_
  intro w0
  repeat (first | refine za ?_ | refine zb ?_ | refine zc ?_ | refine zd ?_ | refine zj ?_ | refine zl ?_ | refine zo ?_ | refine zx ?_ | refine zy ?_ | refine zz ?_ | refine zzc ?_ | refine zzd ?_ | refine zzf ?_ | refine zzg ?_)
  refine x_slice_l rfl rfl rfl sV (by omega) (by omega) rfl trivial ?_
  intro u0 hu0 hc0
  repeat (first | refine za ?_ | refine zb ?_ | refine zc ?_ | refine zd ?_ | refine zj ?_ | refine zl ?_ | refine zo ?_ | refine zx ?_ | refine zy ?_ | refine zz ?_ | refine zzc ?_ | refine zzd ?_ | refine zzf ?_ | refine zzg ?_)
  refine cw_cond rfl (fun h1 => ?_) (fun h1 => ?_) <;> (try simp at h1)
  · have hie : i = q.length := by omega
    subst hie
    repeat (first | refine za ?_ | refine zb ?_ | refine zc ?_ | refine zd ?_ | refine zj ?_ | refine zl ?_ | refine zo ?_ | refine zx ?_ | refine zy ?_ | refine zz ?_ | refine zzc ?_ | refine zzd ?_ | refine zzf ?_ | refine zzg ?_)
    refine x_append (v := v) (by rfl) (by rfl) (by rfl) rfl rfl rfl hv sX (m := 1) (cx := [kk, .int .u64 x]) rfl cX hxo (by omega) rfl trivial ?_
    intro r H1 ap
    refine ⟨trivial, ?_⟩
    repeat (first | refine za ?_ | refine zb ?_ | refine zc ?_ | refine zd ?_ | refine zj ?_ | refine zl ?_ | refine zo ?_ | refine zx ?_ | refine zy ?_ | refine zz ?_ | refine zzc ?_ | refine zzd ?_ | refine zzf ?_ | refine zzg ?_)
    refine cw_ret1 rfl rfl ⟨?_, ap.keep.mono (fun z _ e => ⟨e.1, by omega⟩), ?_⟩
    · rw [List.take_length, List.drop_length, pcs_append]
      exact ap.own
    · rcases ap.place with ⟨e1, e2, e3, e4, e5⟩ | ⟨e1, e2, e3, e4, e5⟩
      · exact .inl ⟨e1, by omega⟩
      · exact .inr (by omega)
  · have hlt : i < q.length := by omega
    have hpos : 0 < sc v := by omega
    repeat (first | refine za ?_ | refine zb ?_ | refine zc ?_ | refine zd ?_ | refine zj ?_ | refine zl ?_ | refine zo ?_ | refine zx ?_ | refine zy ?_ | refine zz ?_ | refine zzc ?_ | refine zzd ?_ | refine zzf ?_ | refine zzg ?_)
    refine x_cap rfl rfl sV rfl trivial ?_
    repeat (first | refine za ?_ | refine zb ?_ | refine zc ?_ | refine zd ?_ | refine zj ?_ | refine zl ?_ | refine zo ?_ | refine zx ?_ | refine zy ?_ | refine zz ?_ | refine zzc ?_ | refine zzd ?_ | refine zzf ?_ | refine zzg ?_)
    refine cw_cond rfl (fun h2 => ?_) (fun h2 => ?_) <;> (try simp at h2)
    · have hfull : sc v = q.length := by omega
      repeat (first | refine za ?_ | refine zb ?_ | refine zc ?_ | refine zd ?_ | refine zj ?_ | refine zl ?_ | refine zo ?_ | refine zx ?_ | refine zy ?_ | refine zz ?_ | refine zzc ?_ | refine zzd ?_ | refine zzf ?_ | refine zzg ?_)
      refine x_slice_h rfl rfl rfl sV (by omega) (by omega) rfl trivial ?_
      intro u1 hu1 hc1
      have o1 := hv.shrink (i := i) hu1 hc1 hi
      rw [pcs_take] at o1
      have e1 : sc u1 = sc v := by have := hc1.cap; omega
      repeat (first | refine za ?_ | refine zb ?_ | refine zc ?_ | refine zd ?_ | refine zj ?_ | refine zl ?_ | refine zo ?_ | refine zx ?_ | refine zy ?_ | refine zz ?_ | refine zzc ?_ | refine zzd ?_ | refine zzf ?_ | refine zzg ?_)
      refine x_as 39 (.int .i64 ((q.length + 1 - i : Nat) : Int)) rfl (by congr 1; omega) ?_
      refine x_appendz (v := u1) (m := q.length + 1 - i) (by rfl) (by omega) (by omega) rfl rfl rfl o1 (by omega) (by omega) (by omega) rfl trivial ?_
      intro v2 H1 ap
      refine ⟨trivial, ?_⟩
      obtain ⟨p1, p2, p3, p4, p5⟩ : sb v2 = H.size ∧ so v2 = 0 ∧ sc u1 < i + (q.length + 1 - i) ∧ i + (q.length + 1 - i) ≤ sc v2 ∧ H1.size = H.size + 1 := by
        rcases ap.place with ⟨e1, e2, e3, e4, e5⟩ | h
        · omega
        · exact h
      have k1 : Keep Non H H1 := ap.keep.mono (fun z _ e => by have := e.2.1; omega)
      have o2 := ap.own
      have en : i + (q.length + 1 - i) = q.length + 1 := by omega
      rw [en] at o2
      have hZ := o2.len
      generalize (Builtin.zeroCells _ (q.length + 1 - i)).toList = Z at o2 hZ
      rw [List.length_append, pcs_length, List.length_take, Nat.min_eq_left hi] at hZ
      have s2 := o2.sl
      have c2 := s2.cap
      repeat (first | refine za ?_ | refine zb ?_ | refine zc ?_ | refine zd ?_ | refine zj ?_ | refine zl ?_ | refine zo ?_ | refine zx ?_ | refine zy ?_ | refine zz ?_ | refine zzc ?_ | refine zzd ?_ | refine zzf ?_ | refine zzg ?_)
      refine x_slice_l rfl rfl rfl s2 (by omega) (by omega) rfl trivial ?_
      intro u2 hu2 hc2
      repeat (first | refine za ?_ | refine zb ?_ | refine zc ?_ | refine zd ?_ | refine zj ?_ | refine zl ?_ | refine zo ?_ | refine zx ?_ | refine zy ?_ | refine zz ?_ | refine zzc ?_ | refine zzd ?_ | refine zzf ?_ | refine zzg ?_)
      have hi2 : i < sc v2 := by omega
      refine x_copy rfl rfl rfl hu2 sX (cx := [kk, .int .u64 x]) (by show 2 = min 1 (q.length + 1 - i) * 2; omega) (cX.keep k1 (fun _ h => h)) hxo (fun _ => o2.dst (i := i) (c := 2) hc2 hi2 (by omega)) rfl trivial ?_
      intro H2 ov
      refine ⟨trivial, ?_⟩
      have o3 := o2.over (Over.at_ (i := i) ov hc2 hi2) (by show i * 2 + 2 ≤ _; rw [List.length_append, pcs_length, List.length_take, Nat.min_eq_left hi]; omega)
      have k2 : Keep Non H H2 := k1.old (Over.at_ (i := i) ov hc2 hi2).keep (fun z hz e => by have := e.1; omega)
      repeat (first | refine za ?_ | refine zb ?_ | refine zc ?_ | refine zd ?_ | refine zj ?_ | refine zl ?_ | refine zo ?_ | refine zx ?_ | refine zy ?_ | refine zz ?_ | refine zzc ?_ | refine zzd ?_ | refine zzf ?_ | refine zzg ?_)
      refine cw_held (fun _ _ => True) ⟨[8], []⟩ (.op 0 (.op 1 (.op 2 (.op 3 (.op 4 (.op 5 (.op 6 (.op 7 (.op 8 (.nil)))))))))) panicOk_body mixed (by kernel_rfl) ?_
      repeat (first | refine za ?_ | refine zb ?_ | refine zc ?_ | refine zd ?_ | refine zj ?_ | refine zl ?_ | refine zo ?_ | refine zx ?_ | refine zy ?_ | refine zz ?_ | refine zzc ?_ | refine zzd ?_ | refine zzf ?_ | refine zzg ?_)
      refine x_as 49 (.int .i64 ((i + 1 : Nat) : Int)) rfl rfl ?_
      refine x_slice_l rfl rfl rfl s2 (by omega) (by omega) rfl (okq_reg rfl rfl) ?_
      intro u3 hu3 hc3
      repeat (first | refine za ?_ | refine zb ?_ | refine zc ?_ | refine zd ?_ | refine zj ?_ | refine zl ?_ | refine zo ?_ | refine zx ?_ | refine zy ?_ | refine zz ?_ | refine zzc ?_ | refine zzd ?_ | refine zzf ?_ | refine zzg ?_)
      refine x_slice_l rfl rfl rfl sV (by omega) (by omega) rfl (okq_reg rfl rfl) ?_
      intro u4 hu4 hc4
      have cT : Cels H2 (sb u4) (so u4) (pcs (q.drop i)) := by
        rw [← pcs_drop]
        exact (hv.cels.tail (c := 0) (j := i) hc4 (by omega)).keep k2 (fun _ h => h)
      repeat (first | refine za ?_ | refine zb ?_ | refine zc ?_ | refine zd ?_ | refine zj ?_ | refine zl ?_ | refine zo ?_ | refine zx ?_ | refine zy ?_ | refine zz ?_ | refine zzc ?_ | refine zzd ?_ | refine zzf ?_ | refine zzg ?_)
      have hi3 : i + 1 < sc v2 := by omega
      refine x_copy rfl rfl rfl hu3 hu4 (cx := pcs (q.drop i)) (by rw [pcs_length, List.length_drop]; show (q.length - i) * 2 = min (q.length - i) (q.length + 1 - (i + 1)) * 2; omega) cT (fun z hz => hqo z (by rw [← pcs_drop] at hz; exact List.mem_of_mem_drop hz)) (fun _ => o3.dst (i := i + 1) hc3 hi3 (by rw [pcs_length, List.length_drop]; omega)) rfl ⟨rfl, rfl⟩ ?_
      intro H3 ov3
      refine ⟨okm_nil rfl, ?_⟩
      have ov3' := Over.at_ (i := i + 1) ov3 hc3 hi3
      have o4 := o3.over ov3' (by rw [putL_length (by show i * 2 + 2 ≤ _; rw [List.length_append, pcs_length, List.length_take, Nat.min_eq_left hi]; omega), List.length_append, pcs_length, pcs_length, List.length_take, List.length_drop, Nat.min_eq_left hi]; omega)
      have k3 : Keep Non H H3 := k2.old ov3'.keep (fun z hz e => by have := e.1; omega)
      repeat (first | refine za ?_ | refine zb ?_ | refine zc ?_ | refine zd ?_ | refine zj ?_ | refine zl ?_ | refine zo ?_ | refine zx ?_ | refine zy ?_ | refine zz ?_ | refine zzc ?_ | refine zzd ?_ | refine zzf ?_ | refine zzg ?_)
      repeat (first | refine za ?_ | refine zb ?_ | refine zc ?_ | refine zd ?_ | refine zj ?_ | refine zl ?_ | refine zo ?_ | refine zx ?_ | refine zy ?_ | refine zz ?_ | refine zzc ?_ | refine zzd ?_ | refine zzf ?_ | refine zzg ?_)
      refine cw_ret1 rfl rfl ⟨?_, k3.mono (fun _ _ h => h.elim), .inr (by omega)⟩
      have et : (pcs (q.take i)).length = i * 2 := by rw [pcs_length, List.length_take, Nat.min_eq_left hi]
      have e5 : putL (pcs (q.take i) ++ Z) (i * 2) [kk, .int .u64 x] = pcs (q.take i) ++ [kk, .int .u64 x] ++ Z.drop 2 := by
        have := putL_at (pcs (q.take i)) (Z.take 2) [kk, .int .u64 x] (Z.drop 2) (by simp; omega)
        rw [et, List.append_assoc, List.take_append_drop] at this
        exact this
      have e6 : putL (pcs (q.take i) ++ [kk, .int .u64 x] ++ Z.drop 2) ((i + 1) * 2) (pcs (q.drop i)) = pcs (q.take i) ++ [kk, .int .u64 x] ++ pcs (q.drop i) := by
        have := putL_at (pcs (q.take i) ++ [kk, .int .u64 x]) (Z.drop 2) (pcs (q.drop i)) [] (by rw [pcs_length, List.length_drop, List.length_drop]; omega)
        rw [List.length_append, et, List.append_nil, List.append_nil] at this
        have e7 : i * 2 + [kk, Value.int .u64 x].length = (i + 1) * 2 := by simp; omega
        rw [e7] at this
        exact this
      rw [e5, e6] at o4
      rw [pcs_append, pcs_cons, List.append_assoc] at *
      exact o4
    · have hroom : q.length + 1 ≤ sc v := by omega
      repeat (first | refine za ?_ | refine zb ?_ | refine zc ?_ | refine zd ?_ | refine zj ?_ | refine zl ?_ | refine zo ?_ | refine zx ?_ | refine zy ?_ | refine zz ?_ | refine zzc ?_ | refine zzd ?_ | refine zzf ?_ | refine zzg ?_)
      refine x_as 59 (.int .i64 ((q.length + 1 : Nat) : Int)) rfl rfl ?_
      refine x_slice_h rfl rfl rfl sV (by omega) (by omega) rfl trivial ?_
      intro v1 hv1 hc1
      obtain ⟨ds, hds, o1⟩ := hv.grow (m := q.length + 1) hv1 hc1 (by omega) hroom
      have s1 : IsSl v1 (q.length + 1) := hv1
      have e1 : sc v1 = sc v := by have := hc1.cap; omega
      obtain ⟨e2, e3⟩ := hc1.at_ (by omega)
      repeat (first | refine za ?_ | refine zb ?_ | refine zc ?_ | refine zd ?_ | refine zj ?_ | refine zl ?_ | refine zo ?_ | refine zx ?_ | refine zy ?_ | refine zz ?_ | refine zzc ?_ | refine zzd ?_ | refine zzf ?_ | refine zzg ?_)
      refine x_as 65 (.int .i64 ((i + 1 : Nat) : Int)) rfl rfl ?_
      refine x_slice_l rfl rfl rfl s1 (by omega) (by omega) rfl trivial ?_
      intro u2 hu2 hc2
      repeat (first | refine za ?_ | refine zb ?_ | refine zc ?_ | refine zd ?_ | refine zj ?_ | refine zl ?_ | refine zo ?_ | refine zx ?_ | refine zy ?_ | refine zz ?_ | refine zzc ?_ | refine zzd ?_ | refine zzf ?_ | refine zzg ?_)
      refine x_overlaps (a := a) (cs := [kk, .int .u64 x]) rfl rfl rfl hu2 (hpmt hx) (hpmt ?_) (by omega) ?_ rfl trivial ?_
      · obtain ⟨l, h3, h4⟩ := o1.dst (i := i + 1) (c := 1) hc2 (by omega) (by omega)
        exact ⟨l, h3, by intro e; subst e; simp at h4⟩
      · rw [(hc2.at_ (show i + 1 < sc v1 by omega)).1, e2]
        exact ha hpos
      repeat (first | refine za ?_ | refine zb ?_ | refine zc ?_ | refine zd ?_ | refine zj ?_ | refine zl ?_ | refine zo ?_ | refine zx ?_ | refine zy ?_ | refine zz ?_ | refine zzc ?_ | refine zzd ?_ | refine zzf ?_ | refine zzg ?_)
      refine cw_held (fun _ _ => True) ⟨[8], []⟩ (.op 0 (.op 1 (.op 2 (.op 3 (.op 4 (.op 5 (.op 6 (.op 7 (.op 8 (.nil)))))))))) panicOk_body mixed (by kernel_rfl) ?_
      repeat (first | refine za ?_ | refine zb ?_ | refine zc ?_ | refine zd ?_ | refine zj ?_ | refine zl ?_ | refine zo ?_ | refine zx ?_ | refine zy ?_ | refine zz ?_ | refine zzc ?_ | refine zzd ?_ | refine zzf ?_ | refine zzg ?_)
      refine x_as 72 (.int .i64 ((i + 1 : Nat) : Int)) rfl rfl ?_
      refine x_slice_l rfl rfl rfl s1 (by omega) (by omega) rfl (okq_reg rfl rfl) ?_
      intro u3 hu3 hc3
      repeat (first | refine za ?_ | refine zb ?_ | refine zc ?_ | refine zd ?_ | refine zj ?_ | refine zl ?_ | refine zo ?_ | refine zx ?_ | refine zy ?_ | refine zz ?_ | refine zzc ?_ | refine zzd ?_ | refine zzf ?_ | refine zzg ?_)
      refine x_slice_l rfl rfl rfl s1 (by omega) (by omega) rfl (okq_reg rfl rfl) ?_
      intro u4 hu4 hc4
      have cT : Cels H (sb u4) (so u4) (pcs (q.drop i)) := by
        have h5 := o1.cels.tail (c := 0) (j := i) hc4 (by omega)
        have h6 := h5.take ((pcs q).drop (i * 2)).length
        rw [List.drop_append, show i * 2 - (pcs q).length = 0 by rw [pcs_length]; omega, List.drop_zero, List.take_left, pcs_drop] at h6
        exact h6
      repeat (first | refine za ?_ | refine zb ?_ | refine zc ?_ | refine zd ?_ | refine zj ?_ | refine zl ?_ | refine zo ?_ | refine zx ?_ | refine zy ?_ | refine zz ?_ | refine zzc ?_ | refine zzd ?_ | refine zzf ?_ | refine zzg ?_)
      have hi3 : i + 1 < sc v1 := by omega
      refine x_copy rfl rfl rfl hu3 hu4 (cx := pcs (q.drop i)) (by rw [pcs_length, List.length_drop]; show (q.length - i) * 2 = min (q.length + 1 - i) (q.length + 1 - (i + 1)) * 2; omega) cT (fun z hz => hqo z (by rw [← pcs_drop] at hz; exact List.mem_of_mem_drop hz)) (fun _ => o1.dst (i := i + 1) hc3 hi3 (by rw [pcs_length, List.length_drop]; omega)) rfl ⟨rfl, rfl⟩ ?_
      intro H2 ov2
      refine ⟨okm_nil rfl, ?_⟩
      have ov2' := Over.at_ (i := i + 1) ov2 hc3 hi3
      have o2 := o1.over ov2' (by rw [List.length_append, pcs_length, pcs_length, List.length_drop, hds]; omega)
      have k2 : Keep (fun z => z = sb v ∧ 0 < sc v) H H2 := ov2'.keep.mono (fun z _ e => ⟨by rw [e.1, e2], hpos⟩)
      repeat (first | refine za ?_ | refine zb ?_ | refine zc ?_ | refine zd ?_ | refine zj ?_ | refine zl ?_ | refine zo ?_ | refine zx ?_ | refine zy ?_ | refine zz ?_ | refine zzc ?_ | refine zzd ?_ | refine zzf ?_ | refine zzg ?_)
      repeat (first | refine za ?_ | refine zb ?_ | refine zc ?_ | refine zd ?_ | refine zj ?_ | refine zl ?_ | refine zo ?_ | refine zx ?_ | refine zy ?_ | refine zz ?_ | refine zzc ?_ | refine zzd ?_ | refine zzf ?_ | refine zzg ?_)
      refine x_slice_l rfl rfl rfl s1 (by omega) (by omega) rfl trivial ?_
      intro u5 hu5 hc5
      repeat (first | refine za ?_ | refine zb ?_ | refine zc ?_ | refine zd ?_ | refine zj ?_ | refine zl ?_ | refine zo ?_ | refine zx ?_ | refine zy ?_ | refine zz ?_ | refine zzc ?_ | refine zzd ?_ | refine zzf ?_ | refine zzg ?_)
      have hi5 : i < sc v1 := by omega
      refine x_copy rfl rfl rfl hu5 sX (cx := [kk, .int .u64 x]) (by show 2 = min 1 (q.length + 1 - i) * 2; omega) (cX.keep k2 (fun _ e => ha e.2 e.1)) hxo (fun _ => o2.dst (i := i) (c := 2) hc5 hi5 (by omega)) rfl trivial ?_
      intro H3 ov3
      refine ⟨trivial, ?_⟩
      have ov3' := Over.at_ (i := i) ov3 hc5 hi5
      have hll : (putL (pcs q ++ ds) ((i + 1) * 2) (pcs (q.drop i))).length = (q.length + 1) * 2 := by
        rw [putL_length (by rw [List.length_append, pcs_length, pcs_length, List.length_drop, hds]; omega), List.length_append, pcs_length, hds]; omega
      have o3 := o2.over ov3' (by show i * 2 + 2 ≤ _; rw [hll]; omega)
      repeat (first | refine za ?_ | refine zb ?_ | refine zc ?_ | refine zd ?_ | refine zj ?_ | refine zl ?_ | refine zo ?_ | refine zx ?_ | refine zy ?_ | refine zz ?_ | refine zzc ?_ | refine zzd ?_ | refine zzf ?_ | refine zzg ?_)
      refine cw_ret1 rfl rfl ⟨?_, k2.step ov3'.keep (fun z _ e => ⟨by rw [e.1, e2], hpos⟩), .inl ⟨e2, hpos⟩⟩
      have et : (pcs (q.take i)).length = i * 2 := by rw [pcs_length, List.length_take, Nat.min_eq_left hi]
      have ed : (pcs (q.drop i)).length = (q.length - i) * 2 := by rw [pcs_length, List.length_drop]
      obtain ⟨A, B, hA, hB, hAB⟩ : ∃ A B : List Value, A.length = (i + 1) * 2 ∧ A.take (i * 2) = pcs (q.take i) ∧ pcs q ++ ds = A ++ B := by
        refine ⟨(pcs q ++ ds).take ((i + 1) * 2), (pcs q ++ ds).drop ((i + 1) * 2), ?_, ?_, (List.take_append_drop _ _).symm⟩
        · rw [List.length_take, List.length_append, pcs_length, hds]; omega
        · rw [List.take_take, Nat.min_eq_left (by omega), List.take_append_of_le_length (by rw [pcs_length]; omega), pcs_take]
      have hBl : B.length = (q.length - i) * 2 := by
        have := congrArg List.length hAB
        rw [List.length_append, List.length_append, pcs_length, hds, hA] at this
        omega
      have e5 : putL (pcs q ++ ds) ((i + 1) * 2) (pcs (q.drop i)) = A ++ pcs (q.drop i) := by
        have := putL_at A B (pcs (q.drop i)) [] (by omega)
        rw [List.append_nil, List.append_nil, hA, ← hAB] at this
        exact this
      have hAe : A = pcs (q.take i) ++ A.drop (i * 2) := by rw [← hB, List.take_append_drop]
      have e6 : putL (A ++ pcs (q.drop i)) (i * 2) [kk, .int .u64 x] = pcs (q.take i) ++ [kk, .int .u64 x] ++ pcs (q.drop i) := by
        have := putL_at (pcs (q.take i)) (A.drop (i * 2)) [kk, .int .u64 x] (pcs (q.drop i)) (by rw [List.length_drop, hA]; simp; omega)
        rw [et, ← hAe] at this
        exact this
      rw [e5, e6] at o3
      rw [pcs_append, pcs_cons, List.append_assoc] at *
      exact o3

theorem slices_Delete {v : Value} {q : List (Value × Int)} {i : Nat} {H : Heap} (hv : Own 2 H v q.length (pcs q)) (hi : i < q.length) (hq : q.length ≤ 100000) (hqo : ∀ z ∈ pcs q, oneC z = true) :
    Ret Try.prog 90 [v, .int .i64 i, .int .i64 ((i + 1 : Nat) : Int)] H (fun r H' => Own 2 H' r (q.length - 1) (pcs (q.take i ++ q.drop (i + 1))) ∧ Keep (fun z => z = sb v ∧ 0 < sc v) H H' ∧ sb r = sb v ∧ sc r = sc v) := by
  have sV := hv.sl
  have cV := sV.cap
  have hxl := pcs_length q
  have hpos : 0 < sc v := by omega
  refine ret_of Try.func90 rfl rfl rfl rfl ?_
  intro w0
  repeat (first | refine za ?_ | refine zb ?_ | refine zj ?_ | refine zl ?_ | refine zx ?_ | refine zy ?_ | refine zz ?_ | refine zzc ?_ | refine zzd ?_ | refine zzf ?_ | refine zzg ?_)
  refine x_slice3 rfl rfl rfl rfl rfl sV (by omega) (by omega) (by omega) (by omega) rfl trivial ?_
  intro u0
  repeat (first | refine za ?_ | refine zb ?_ | refine zj ?_ | refine zl ?_ | refine zx ?_ | refine zy ?_ | refine zz ?_ | refine zzc ?_ | refine zzd ?_ | refine zzf ?_ | refine zzg ?_)
  refine cw_cond rfl (fun h => absurd h (by simp; omega)) (fun _ => ?_)
  repeat (first | refine za ?_ | refine zb ?_ | refine zj ?_ | refine zl ?_ | refine zx ?_ | refine zy ?_ | refine zz ?_ | refine zzc ?_ | refine zzd ?_ | refine zzf ?_ | refine zzg ?_)
  refine cw_held (fun _ _ => True) ⟨[6], []⟩ (.op 0 (.op 1 (.op 2 (.op 3 (.op 4 (.op 5 (.op 6 (.op 7 (.nil))))))))) panicOk_body mixed (by kernel_rfl) ?_
  repeat (first | refine za ?_ | refine zb ?_ | refine zj ?_ | refine zl ?_ | refine zx ?_ | refine zy ?_ | refine zz ?_ | refine zzc ?_ | refine zzd ?_ | refine zzf ?_ | refine zzg ?_)
  refine x_slice_h rfl rfl rfl sV (by omega) (by omega) rfl (okq_reg rfl rfl) ?_
  intro u1 hu1 hc1
  repeat (first | refine za ?_ | refine zb ?_ | refine zj ?_ | refine zl ?_ | refine zx ?_ | refine zy ?_ | refine zz ?_ | refine zzc ?_ | refine zzd ?_ | refine zzf ?_ | refine zzg ?_)
  refine x_slice_l rfl rfl rfl sV (by omega) (by omega) rfl (okq_reg rfl rfl) ?_
  intro u2 hu2 hc2
  have o1 := hv.shrink (i := i) hu1 hc1 (by omega)
  rw [pcs_take] at o1
  have e1 : sc u1 = sc v := by have := hc1.cap; omega
  obtain ⟨e2, e3⟩ := hc1.at_ (by omega)
  have hs2 : IsSl u2 (q.length - (i + 1)) := hu2
  have cT : Cels H (sb u2) (so u2) (pcs (q.drop (i + 1))) := by
    by_cases hlt : i + 1 < sc v
    · rw [← pcs_drop]
      exact hv.cels.tail (c := 0) (j := i + 1) hc2 hlt
    · have : q.drop (i + 1) = [] := List.drop_of_length_le (by omega)
      rw [this]
      exact Cels.nil _ _ _
  repeat (first | refine za ?_ | refine zb ?_ | refine zj ?_ | refine zl ?_ | refine zx ?_ | refine zy ?_ | refine zz ?_ | refine zzc ?_ | refine zzd ?_ | refine zzf ?_ | refine zzg ?_)
  refine x_append (v := u1) (by rfl) (by rfl) (by rfl) rfl rfl rfl o1 hs2 (cx := pcs (q.drop (i + 1))) (by rw [pcs_length, List.length_drop]) cT (fun z hz => hqo z (by rw [← pcs_drop] at hz; exact List.mem_of_mem_drop hz)) (by omega) rfl ⟨rfl, rfl⟩ ?_
  intro r H1 ap
  refine ⟨okm_nil rfl, ?_⟩
  obtain ⟨p1, p2, p3, p4, p5⟩ : sb r = sb u1 ∧ so r = so u1 ∧ sc r = sc u1 ∧ i + (q.length - (i + 1)) ≤ sc u1 ∧ H1.size = H.size := by
    rcases ap.place with h | ⟨e1, e2, e3, e4, e5⟩
    · exact h
    · omega
  have oR := ap.own
  rw [show i + (q.length - (i + 1)) = q.length - 1 by omega, ← pcs_append] at oR
  have sR := oR.sl
  have cR := sR.cap
  have k1 : Keep (fun z => z = sb v ∧ 0 < sc v) H H1 := ap.keep.mono (fun z _ e => ⟨by rw [e.1, e2], hpos⟩)
  repeat (first | refine za ?_ | refine zb ?_ | refine zj ?_ | refine zl ?_ | refine zx ?_ | refine zy ?_ | refine zz ?_ | refine zzc ?_ | refine zzd ?_ | refine zzf ?_ | refine zzg ?_)
  repeat (first | refine za ?_ | refine zb ?_ | refine zj ?_ | refine zl ?_ | refine zx ?_ | refine zy ?_ | refine zz ?_ | refine zzc ?_ | refine zzd ?_ | refine zzf ?_ | refine zzg ?_)
  refine x_slice_lh rfl rfl rfl rfl sR (by omega) (by omega) (by omega) rfl trivial ?_
  intro u3 hu3 hc3
  have hs3 : IsSl u3 1 := by
    have e : ((q.length : Int)).toNat - (((q.length - 1 : Nat) : Int)).toNat = 1 := by omega
    rw [← e]; exact hu3
  repeat (first | refine za ?_ | refine zb ?_ | refine zj ?_ | refine zl ?_ | refine zx ?_ | refine zy ?_ | refine zz ?_ | refine zzc ?_ | refine zzd ?_ | refine zzf ?_ | refine zzg ?_)
  refine x_clear (by rfl) (by simp [Value.cells, oneC, Value.oneCell']) rfl rfl hs3 (fun _ => ?_) rfl trivial ?_
  · exact oR.dst (i := q.length - 1) (c := 1 * 2) hc3 (by omega) (by omega)
  intro H2 ov
  refine ⟨trivial, ?_⟩
  have ov' := Over.at_ (i := q.length - 1) ov hc3 (by omega)
  have hzl : (Builtin.zeroCells (Value.agg #[.slice none 0 0, .int .u64 0]).cells 1).toList.length = 2 := by rw [zeroCells_size]; rfl
  have oE := oR.beyond ov' (by rw [pcs_length, List.length_append, List.length_take, List.length_drop]; omega) (by rw [hzl]; omega)
  repeat (first | refine za ?_ | refine zb ?_ | refine zj ?_ | refine zl ?_ | refine zx ?_ | refine zy ?_ | refine zz ?_ | refine zzc ?_ | refine zzd ?_ | refine zzf ?_ | refine zzg ?_)
  exact cw_ret1 rfl rfl ⟨oE, k1.step ov'.keep (fun z _ e => ⟨by rw [e.1, p1, e2], hpos⟩), by rw [p1, e2], by rw [p3, e1]⟩

theorem rank_lt {l : List Pr} {k : Bytes} (hr : rises l = true) {j : Nat} {p : Pr} (hp : l[j]? = some p) : (cmpB p.1 k < 0 ↔ j < rank l k) := by
  have hj := (List.getElem?_eq_some_iff.1 hp).1
  constructor
  · intro h
    by_cases hlt : j < rank l k
    · exact hlt
    · have hmem : p ∈ l.drop (rank l k) := by
        apply List.mem_of_getElem? (i := j - rank l k)
        rw [List.getElem?_drop, show rank l k + (j - rank l k) = j by omega]
        exact hp
      have h1 := rank_drop hr k p hmem
      have h2 := cmp_anti p.1 k
      omega
  · intro h
    have hmem : p ∈ l.take (rank l k) := by
      apply List.mem_of_getElem? (i := j)
      rw [List.getElem?_take, if_pos h]
      exact hp
    have := (rank_split l k).1 p hmem
    omega
theorem there_at {l : List Pr} {k : Bytes} {p : Pr} (hp : l[rank l k]? = some p) : there l k = (p.1 == k) := by
  unfold there
  rw [hp]
theorem there_end {l : List Pr} {k : Bytes} (h : ¬ rank l k < l.length) : there l k = false := by
  unfold there
  rw [List.getElem?_eq_none (by omega)]

theorem slices_Search {f : Nat} [hF : Fnc Try.prog f] {v vk : Value} {l : List Pr} {k : Bytes} {H : Heap} (hA : Ps H v l) (hK : Bs H vk k) (hr : rises l = true) (hl : l.length ≤ 100000)
    (hcmp : ∀ H', Keep Non H H' → ∀ kk c (x : Int), Bs H' kk c → Ret Try.prog f [.agg [kk, .int .u64 x].toArray, vk] H' (fun r H'' => Keep Non H' H'' ∧ r = .int .i64 (cmpB c k))) :
    Ret Try.prog 99 [v, vk, .func (.func f) #[] #[]] H (fun r H' => Keep Non H H' ∧ r = .tuple #[.int .i64 (rank l k), .bool (there l k)]) := by
  have sV := hA.sl
  have cV := sV.cap
  have hle := rank_le l k
  refine ret_of Try.func99 rfl rfl rfl rfl ?_
  intro w0
  repeat (first | refine za ?_ | refine zb ?_ | refine zc ?_ | refine zj ?_ | refine zl ?_ | refine zm ?_ | refine zn ?_ | refine zu ?_ | refine zv ?_ | refine zw ?_ | refine zx ?_ | refine zy ?_ | refine zz ?_ | refine zza ?_ | refine zzb ?_ | refine zzc ?_ | refine zzd ?_ | refine zze ?_ | refine zzf ?_ | refine zzg ?_)
  refine cw_loop (fun s : Nat × Nat => [(0, v), (1, vk), (2, .func (.func f) #[] #[]), (8, .int .i64 l.length), (9, .int .i64 s.1), (10, .int .i64 s.2)]) (fun s H' => Keep Non H H' ∧ s.1 ≤ rank l k ∧ rank l k ≤ s.2 ∧ s.2 ≤ l.length) (fun s => s.2 - s.1) (0, l.length) (by repeat (first | exact True.intro | refine ⟨rfl, ?_⟩)) ⟨Keep.refl _ _, by simp, hle, Nat.le_refl _⟩ ?_
  rintro ⟨lo, hi⟩ H1 ⟨hk1, h1, h2, h3⟩
  dsimp only at h1 h2 h3 ⊢
  have hA1 := hA.keepN hk1
  repeat (first | refine za ?_ | refine zb ?_ | refine zc ?_ | refine zj ?_ | refine zl ?_ | refine zm ?_ | refine zn ?_ | refine zu ?_ | refine zv ?_ | refine zw ?_ | refine zx ?_ | refine zy ?_ | refine zz ?_ | refine zza ?_ | refine zzb ?_ | refine zzc ?_ | refine zzd ?_ | refine zze ?_ | refine zzf ?_ | refine zzg ?_)
  refine cw_cond rfl (fun h4 => ?_) (fun h4 => ?_) <;> (try simp at h4)
  · obtain ⟨m, hm⟩ : ∃ m : Nat, m = (lo + hi) / 2 := ⟨_, rfl⟩
    repeat (first | refine za ?_ | refine zb ?_ | refine zc ?_ | refine zj ?_ | refine zl ?_ | refine zm ?_ | refine zn ?_ | refine zu ?_ | refine zv ?_ | refine zw ?_ | refine zx ?_ | refine zy ?_ | refine zz ?_ | refine zza ?_ | refine zzb ?_ | refine zzc ?_ | refine zzd ?_ | refine zze ?_ | refine zzf ?_ | refine zzg ?_)
    refine x_conv_int rfl rfl rfl trivial ?_
    refine x_shr rfl rfl rfl (by omega) rfl trivial ?_
    refine x_conv_int rfl rfl rfl trivial ?_
    refine x_as 23 (.int .i64 (m : Int)) rfl ?_ ?_
    · congr 1
      have e1 : IntKind.u64.wrap ((lo : Int) + (hi : Int)) = (lo : Int) + (hi : Int) := by rw [wrap_u64_mod]; omega
      rw [e1]
      have e2 : ((lo : Int) + (hi : Int)).fdiv (2 ^ (min (1 : Int).toNat IntKind.u64.bits)) = (m : Int) := by
        show ((lo : Int) + (hi : Int)).fdiv 2 = (m : Int)
        rw [Int.fdiv_eq_ediv_of_nonneg _ (by omega)]
        omega
      rw [e2]
      exact wrap_i64 (by omega) (by omega)
    obtain ⟨p, hp⟩ := getp (l := l) (j := m) (by omega)
    obtain ⟨kk, a1, a2, a3⟩ := hA1.at_ m p hp
    have hrl := rank_lt (k := k) hr hp
    repeat (first | refine za ?_ | refine zb ?_ | refine zc ?_ | refine zj ?_ | refine zl ?_ | refine zm ?_ | refine zn ?_ | refine zu ?_ | refine zv ?_ | refine zw ?_ | refine zx ?_ | refine zy ?_ | refine zz ?_ | refine zza ?_ | refine zzb ?_ | refine zzc ?_ | refine zzd ?_ | refine zze ?_ | refine zzf ?_ | refine zzg ?_)
    refine x_loads (cs := [kk, .int .u64 p.2]) rfl rfl rfl (hpmt (cels_two a1 a2)) rfl trivial ?_
    repeat (first | refine za ?_ | refine zb ?_ | refine zc ?_ | refine zj ?_ | refine zl ?_ | refine zm ?_ | refine zn ?_ | refine zu ?_ | refine zv ?_ | refine zw ?_ | refine zx ?_ | refine zy ?_ | refine zz ?_ | refine zza ?_ | refine zzb ?_ | refine zzc ?_ | refine zzd ?_ | refine zze ?_ | refine zzf ?_ | refine zzg ?_)
    refine x_callv (fv := []) (cv := []) rfl rfl rfl rfl trivial (hcmp H1 hk1 kk p.1 p.2 a3) ?_
    rintro _ H2 ⟨hk2, rfl⟩
    refine ⟨trivial, ?_⟩
    repeat (first | refine za ?_ | refine zb ?_ | refine zc ?_ | refine zj ?_ | refine zl ?_ | refine zm ?_ | refine zn ?_ | refine zu ?_ | refine zv ?_ | refine zw ?_ | refine zx ?_ | refine zy ?_ | refine zz ?_ | refine zza ?_ | refine zzb ?_ | refine zzc ?_ | refine zzd ?_ | refine zze ?_ | refine zzf ?_ | refine zzg ?_)
    refine cw_cond rfl (fun h5 => ?_) (fun h5 => ?_) <;> (try simp at h5)
    · repeat (first | refine za ?_ | refine zb ?_ | refine zc ?_ | refine zj ?_ | refine zl ?_ | refine zm ?_ | refine zn ?_ | refine zu ?_ | refine zv ?_ | refine zw ?_ | refine zx ?_ | refine zy ?_ | refine zz ?_ | refine zza ?_ | refine zzb ?_ | refine zzc ?_ | refine zzd ?_ | refine zze ?_ | refine zzf ?_ | refine zzg ?_)
      exact nw_round (m + 1, hi) (by repeat (first | exact True.intro | refine ⟨rfl, ?_⟩)) ⟨hk1.non_trans hk2, by show m + 1 ≤ _; have := hrl.1 h5; omega, h2, h3⟩ (by show hi - (m + 1) < hi - lo; omega)
    · repeat (first | refine za ?_ | refine zb ?_ | refine zc ?_ | refine zj ?_ | refine zl ?_ | refine zm ?_ | refine zn ?_ | refine zu ?_ | refine zv ?_ | refine zw ?_ | refine zx ?_ | refine zy ?_ | refine zz ?_ | refine zza ?_ | refine zzb ?_ | refine zzc ?_ | refine zzd ?_ | refine zze ?_ | refine zzf ?_ | refine zzg ?_)
      exact nw_round (lo, m) (by repeat (first | exact True.intro | refine ⟨rfl, ?_⟩)) ⟨hk1.non_trans hk2, h1, by show rank l k ≤ m; have : ¬ m < rank l k := fun h => absurd (hrl.2 h) (by omega); omega, by show m ≤ _; omega⟩ (by show m - lo < hi - lo; omega)
  · have hrk : rank l k = lo := by omega
    subst hrk
    repeat (first | refine za ?_ | refine zb ?_ | refine zc ?_ | refine zj ?_ | refine zl ?_ | refine zm ?_ | refine zn ?_ | refine zu ?_ | refine zv ?_ | refine zw ?_ | refine zx ?_ | refine zy ?_ | refine zz ?_ | refine zza ?_ | refine zzb ?_ | refine zzc ?_ | refine zzd ?_ | refine zze ?_ | refine zzf ?_ | refine zzg ?_)
    refine x_split 39 rfl (fun h6 => ?_) (fun h6 => ?_) <;> (try simp at h6)
    · obtain ⟨p, hp⟩ := getp (l := l) (j := rank l k) (by omega)
      obtain ⟨kk, a1, a2, a3⟩ := hA1.at_ _ p hp
      repeat (first | refine za ?_ | refine zb ?_ | refine zc ?_ | refine zj ?_ | refine zl ?_ | refine zm ?_ | refine zn ?_ | refine zu ?_ | refine zv ?_ | refine zw ?_ | refine zx ?_ | refine zy ?_ | refine zz ?_ | refine zza ?_ | refine zzb ?_ | refine zzc ?_ | refine zzd ?_ | refine zze ?_ | refine zzf ?_ | refine zzg ?_)
      refine x_loads (cs := [kk, .int .u64 p.2]) rfl rfl rfl (hpmt (cels_two a1 a2)) rfl trivial ?_
      repeat (first | refine za ?_ | refine zb ?_ | refine zc ?_ | refine zj ?_ | refine zl ?_ | refine zm ?_ | refine zn ?_ | refine zu ?_ | refine zv ?_ | refine zw ?_ | refine zx ?_ | refine zy ?_ | refine zz ?_ | refine zza ?_ | refine zzb ?_ | refine zzc ?_ | refine zzd ?_ | refine zze ?_ | refine zzf ?_ | refine zzg ?_)
      refine x_callv (fv := []) (cv := []) rfl rfl rfl rfl trivial (hcmp H1 hk1 kk p.1 p.2 a3) ?_
      rintro _ H2 ⟨hk2, rfl⟩
      refine ⟨trivial, ?_⟩
      repeat (first | refine za ?_ | refine zb ?_ | refine zc ?_ | refine zj ?_ | refine zl ?_ | refine zm ?_ | refine zn ?_ | refine zu ?_ | refine zv ?_ | refine zw ?_ | refine zx ?_ | refine zy ?_ | refine zz ?_ | refine zza ?_ | refine zzb ?_ | refine zzc ?_ | refine zzd ?_ | refine zze ?_ | refine zzf ?_ | refine zzg ?_)
      refine cw_ret2 rfl rfl rfl ⟨hk1.non_trans hk2, ?_⟩
      rw [there_at hp]
      have : (cmpB p.1 k == 0) = (p.1 == k) := by
        have := @cmp_zero p.1 k
        by_cases h : p.1 = k
        · subst h; rw [cmp_self]; simp
        · have h' : ¬ cmpB p.1 k = 0 := fun e => h (this.1 e)
          rw [beq_eq_false_iff_ne.2 h, beq_eq_false_iff_ne.2 h']
      rw [← this]
      try rfl
    · repeat (first | refine za ?_ | refine zb ?_ | refine zc ?_ | refine zj ?_ | refine zl ?_ | refine zm ?_ | refine zn ?_ | refine zu ?_ | refine zv ?_ | refine zw ?_ | refine zx ?_ | refine zy ?_ | refine zz ?_ | refine zza ?_ | refine zzb ?_ | refine zzc ?_ | refine zzd ?_ | refine zze ?_ | refine zzf ?_ | refine zzg ?_)
      refine cw_ret2 rfl rfl rfl ⟨hk1, ?_⟩
      rw [there_end (by omega)]
end Go.Proofs.Ytaloblomncjgkaa.X
