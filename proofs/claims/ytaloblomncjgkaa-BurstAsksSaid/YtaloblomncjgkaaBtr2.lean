/- The package burst: a tree's Put, Drop. -/
import Derived.Test.YtaloblomncjgkaaBtr
namespace Go.Proofs.Ytaloblomncjgkaa.X
open Go Go.Proofs
set_option linter.unusedVariables false
set_option linter.unusedSimpArgs false
set_option maxRecDepth 10000
set_option maxHeartbeats 2000000

/-- what a put of a tree may find -/
inductive PutB (G : Role) (H : Heap) (b most : Nat) (t : BT) (k : Bytes) (x : Int) (r : Value) (H' : Heap) : Prop where
  | long (h : 65535 < k.length) (e : r = .tuple #[.int .u64 0, .bool false, .int .i64 3]) (keep : Keep Non H H')
  | full (h : k.length ≤ 65535) (hn : there (t.pairs []) k = false) (hm : most < (t.put [] (k, x)).size) (e : r = .tuple #[.int .u64 0, .bool false, .int .i64 4]) (keep : Keep Non H H')
  | put (h : k.length ≤ 65535) (hm : there (t.pairs []) k = true ∨ (t.put [] (k, x)).size ≤ most) (e : r = .tuple #[.int .u64 ((getM (t.pairs []) k).getD 0), .bool (there (t.pairs []) k), .int .i64 0]) (keep : Keep (fun z => G z ≠ 0) H H')
      (G' : Role) (hE : G.Ext G' H H') (hB : Bu G' H' b most (t.put [] (k, x)))
theorem put_there_size : ∀ (t : BT) {w : Bytes} {p : Pr}, begins p.1 w = true → t.Wf w → t.look w p.1 ≠ none → (t.put w p).size = t.size := by
  intro t
  induction t with
  | nil => intro w p _ _ h; exact absurd rfl h
  | shelf ps =>
    intro w p hb hW h
    have : there ps p.1 = true := by
      rw [there_of_fnd hW.1.rise]
      have h : fnd ps p.1 ≠ none := h
      cases hf : fnd ps p.1 with
      | none => exact absurd hf h
      | some v => rfl
    unfold BT.put
    rw [if_pos this]
    rfl
  | node own kids ih =>
    intro w p hb hW h
    cases hc : p.1[w.length]? with
    | none => rw [BT.put_none hc]; rfl
    | some c =>
      rw [BT.put_some hc]
      have h2 : (kids c).look (w ++ [c]) p.1 ≠ none := by
        rw [BT.look, hc] at h
        exact h
      have h1 := BT.size_kid own own kids c ((kids c).put (w ++ [c]) p)
      have h3 := ih c ((BT.beg_step hb).1 hc) (hW.2.1 c) h2
      omega
theorem beg_nil_ (k : Bytes) : begins k [] = true := BT.beg_self [] |> fun _ => begins_iff.2 ⟨k, rfl⟩

section put
variable {G : Role} {H : Heap} {b most : Nat} {t : BT} {vk : Value} {k : Bytes}
theorem tree_Put (x : Int) (hB : Bu G H b most t) (hc : t.count ≤ 5000) (hK : Bs H vk k) (hoff : k ≠ [] → G (sb vk) = 0) : Ret Try.prog 17 [ptr b 0, vk, .int .u64 x] H (fun r H' => PutB G H b most t k x r H') := by
  have hlen := hB.len
  have hmay := hB.may
  have hrise := hB.rise
  have sK := hK.sl
  have hms := hB.most_
  have hsz := hB.size
  refine ret_of Try.func17 rfl rfl rfl rfl ?_
  intro w0
  repeat (first | refine za ?_ | refine zb ?_ | refine zc ?_ | refine zg ?_ | refine zj ?_ | refine zm ?_ | refine zn ?_ | refine zo ?_ | refine zr ?_ | refine zs ?_ | refine zt ?_ | refine zu ?_ | refine zx ?_ | refine zy ?_ | refine zz ?_ | refine zza ?_ | refine zzb ?_ | refine zzc ?_ | refine zzd ?_ | refine zzf ?_ | refine zzg ?_)
  refine x_call rfl rfl rfl trivial (key_May hK.sl) ?_
  rintro _ _ ⟨rfl, rfl⟩
  refine ⟨trivial, ?_⟩
  repeat (first | refine za ?_ | refine zb ?_ | refine zc ?_ | refine zg ?_ | refine zj ?_ | refine zm ?_ | refine zn ?_ | refine zo ?_ | refine zr ?_ | refine zs ?_ | refine zt ?_ | refine zu ?_ | refine zx ?_ | refine zy ?_ | refine zz ?_ | refine zza ?_ | refine zzb ?_ | refine zzc ?_ | refine zzd ?_ | refine zzf ?_ | refine zzg ?_)
  refine cw_cond rfl (fun hlong => ?_) (fun hlong => ?_) <;> (try simp at hlong)
  · repeat (first | refine za ?_ | refine zb ?_ | refine zc ?_ | refine zg ?_ | refine zj ?_ | refine zm ?_ | refine zn ?_ | refine zo ?_ | refine zr ?_ | refine zs ?_ | refine zt ?_ | refine zu ?_ | refine zx ?_ | refine zy ?_ | refine zz ?_ | refine zza ?_ | refine zzb ?_ | refine zzc ?_ | refine zzd ?_ | refine zzf ?_ | refine zzg ?_)
    exact cw_ret3 rfl rfl rfl rfl (.long (by omega) rfl (Keep.refl _ _))
  · have hl : k.length ≤ 65535 := by omega
    obtain ⟨hps1, hps2⟩ := BT.put_size t (w := []) (p := (k, x)) hB.wf (beg_nil_ k) hl
    simp only [List.length_nil] at hps1
    repeat (first | refine za ?_ | refine zb ?_ | refine zc ?_ | refine zg ?_ | refine zj ?_ | refine zm ?_ | refine zn ?_ | refine zo ?_ | refine zr ?_ | refine zs ?_ | refine zt ?_ | refine zu ?_ | refine zx ?_ | refine zy ?_ | refine zz ?_ | refine zza ?_ | refine zzb ?_ | refine zzc ?_ | refine zzd ?_ | refine zzf ?_ | refine zzg ?_)
    refine x_call rfl rfl rfl trivial (slices_Clone hK (by omega)) ?_
    rintro c H1 ⟨hk1, hc1, hf1⟩
    refine ⟨trivial, ?_⟩
    repeat (first | refine za ?_ | refine zb ?_ | refine zc ?_ | refine zg ?_ | refine zj ?_ | refine zm ?_ | refine zn ?_ | refine zo ?_ | refine zr ?_ | refine zs ?_ | refine zt ?_ | refine zu ?_ | refine zx ?_ | refine zy ?_ | refine zz ?_ | refine zza ?_ | refine zzb ?_ | refine zzc ?_ | refine zzd ?_ | refine zzf ?_ | refine zzg ?_)
    refine x_build (cs := [c, .int .u64 (x)]) rfl rfl rfl (two_oneC (isSl_oneC hc1.sl)) rfl trivial ?_
    refine x_alloc rfl rfl trivial ?_
    intro H2 hn2
    refine ⟨trivial, ?_⟩
    refine x_stores rfl rfl rfl rfl (two_oneC' (isSl_oneC hc1.sl)) hn2.blk (by simp) trivial ?_
    intro H3 hB3 hk3 hs3
    refine ⟨trivial, ?_⟩
    have hs1 := hk1.size
    have hs2 := hn2.size
    have hk03 : Keep Non H H3 := keep_at (hn2.old hk1) hk3 (by omega)
    have hpp : Cels H3 H1.size 0 [c, .int .u64 x] := by
      have := hB3.cels 0 2 (by simp [putL])
      simpa [putL] using this
    have hcc : k ≠ [] → H.size ≤ sb c ∧ sb c < H1.size := fun hne => by
      have := List.length_pos_iff.2 hne
      have := hc1.sl.cap.1
      exact ⟨hf1 (by omega), hc1.lt (by omega)⟩
    have hcB : Bs H3 c k := (hc1.bs.keepN hn2.keep).keep hk3 (fun hne e => by have := hcc hne; omega)
    have hB3' := hB.keepN hk03
    obtain ⟨K, L, mb, vr, r1, r2, r3, r4, r5, r6⟩ := hB3'.row
    have c0 : cel H3 b 0 = some (ptr mb 0) := by rw [r1.cel]; rfl
    have c1 : cel H3 b 1 = some (.int .i64 most) := by rw [r1.cel]; rfl
    have c2 : cel H3 b 2 = some vr := by rw [r1.cel]; rfl
    have c3 : cel H3 b 3 = some (.int .i64 t.size) := by rw [r1.cel]; rfl
    have hbs := r1.lt
    -- the key is the tree's now
    obtain ⟨L0, hL0⟩ : ∃ L0, L0 = L.opt (k ≠ []) (sb c) (0, []) := ⟨_, rfl⟩
    have hLin : L.In H := fun x hx => by
      have := r6 x hx
      exact hB.gin x (by omega)
    have hE0 : Lab.Ext H.size L L0 := by rw [hL0]; exact Lab.Ext.opt fun hne => ⟨hLin.off (hcc hne).1, (hcc hne).1⟩
    have hI0 : L0.In H3 := by rw [hL0]; exact Lab.In.opt (hLin.mono hk03.size) (fun hne => by have := hcc hne; omega)
    have hKL : KL L0 H3 c k := ⟨hcB, fun hne => by rw [hL0]; exact Lab.opt_at hne⟩
    have hT0 : Tv L0 H3 t [] vr := r3.lab hE0.old
    have hL0n : ∀ y, L0 y ≠ none → G y = 3 ∨ (k ≠ [] ∧ y = sb c) := fun y hy => by
      by_cases hyc : k ≠ [] ∧ y = sb c
      · exact .inr hyc
      · rw [hL0, Lab.opt_ne (fun hne e => hyc ⟨hne, e⟩)] at hy
        exact .inl (r6 y hy)
    repeat (first | refine za ?_ | refine zb ?_ | refine zc ?_ | refine zg ?_ | refine zj ?_ | refine zm ?_ | refine zn ?_ | refine zo ?_ | refine zr ?_ | refine zs ?_ | refine zt ?_ | refine zu ?_ | refine zx ?_ | refine zy ?_ | refine zz ?_ | refine zza ?_ | refine zzb ?_ | refine zzc ?_ | refine zzd ?_ | refine zzf ?_ | refine zzg ?_)
    refine x_load rfl rfl (hpmt (c0)) rfl trivial ?_
    repeat (first | refine za ?_ | refine zb ?_ | refine zc ?_ | refine zg ?_ | refine zj ?_ | refine zm ?_ | refine zn ?_ | refine zo ?_ | refine zr ?_ | refine zs ?_ | refine zt ?_ | refine zu ?_ | refine zx ?_ | refine zy ?_ | refine zz ?_ | refine zza ?_ | refine zzb ?_ | refine zzc ?_ | refine zzd ?_ | refine zzf ?_ | refine zzg ?_)
    refine x_call rfl rfl rfl trivial (model_Get r2 hrise (by omega) (hK.keepN hk03)) ?_
    rintro _ H4 ⟨hk4, rfl⟩
    refine ⟨trivial, ?_⟩
    have hk04 := hk03.non_trans hk4
    have hs4 := hk4.size
    have hkr := Keep.refl Non H4
    have hlook := BT.look_there hB.wf.wf0 k
    have c0' := hk4.cel c0 (fun h => h)
    have c1' := hk4.cel c1 (fun h => h)
    have c2' := hk4.cel c2 (fun h => h)
    have c3' := hk4.cel c3 (fun h => h)
    have hpp' : Cels H4 H1.size 0 [c, .int .u64 x] := hpp.keep hk4 (fun _ h => h)
    have hT4 := hT0.keepN hk4
    have hI4 : L0.In H4 := hI0.mono hs4
    have hKL4 := hKL.keepN hk4
    repeat (first | refine za ?_ | refine zb ?_ | refine zc ?_ | refine zg ?_ | refine zj ?_ | refine zm ?_ | refine zn ?_ | refine zo ?_ | refine zr ?_ | refine zs ?_ | refine zt ?_ | refine zu ?_ | refine zx ?_ | refine zy ?_ | refine zz ?_ | refine zza ?_ | refine zzb ?_ | refine zzc ?_ | refine zzd ?_ | refine zzf ?_ | refine zzg ?_)
    refine cw_cut (fun e : Bool => [(0, ptr b 0), (1, vk), (2, .int .u64 x), (9, ptr H1.size 0), (52, .bool e)]) (fun e H' => Keep Non H4 H' ∧ (e = true → there (t.pairs []) k = false ∧ most < (t.put [] (k, x)).size) ∧ (e = false → there (t.pairs []) k = true ∨ (t.put [] (k, x)).size ≤ most)) ?_ ?_
    · rcases hth : there (t.pairs []) k with _ | _
      · refine cw_held (fun _ => Keep Non H4) ⟨[12], [(6, 0), (10, 0), (11, 0), (17, 0)]⟩ (.op 0 (.op 1 (.op 2 (.op 3 (.op 4 (.op 5 (.op 6 (.op 7 (.op 8 (.op 9 (.op 10 (.op 11 (.op 14 (.op 15 (.op 16 (.op 17 (.op 12 (.op 13 (.op 18 (.op 19 (.nil))))))))))))))))))))) panicOk_body mixed (by kernel_rfl) ?_
        repeat (first | refine za ?_ | refine zb ?_ | refine zc ?_ | refine zj ?_ | refine zm ?_ | refine zn ?_ | refine zo ?_ | refine zr ?_ | refine zs ?_ | refine zt ?_ | refine zu ?_ | refine zx ?_ | refine zy ?_ | refine zz ?_ | refine zza ?_ | refine zzb ?_ | refine zzc ?_ | refine zzd ?_ | refine zzf ?_ | refine zzg ?_)
        refine x_load rfl rfl (hpmk rfl (fun _ hk => hk.cel c3' (fun h => h))) rfl (okq_load rfl rfl (by assumption)) ?_
        repeat (first | refine za ?_ | refine zb ?_ | refine zc ?_ | refine zj ?_ | refine zm ?_ | refine zn ?_ | refine zo ?_ | refine zr ?_ | refine zs ?_ | refine zt ?_ | refine zu ?_ | refine zx ?_ | refine zy ?_ | refine zz ?_ | refine zza ?_ | refine zzb ?_ | refine zzc ?_ | refine zzd ?_ | refine zzf ?_ | refine zzg ?_)
        refine x_load rfl rfl (hpmk rfl (fun _ hk => hk.cel c2' (fun h => h))) rfl (okq_load rfl rfl (by assumption)) ?_
        repeat (first | refine za ?_ | refine zb ?_ | refine zc ?_ | refine zj ?_ | refine zm ?_ | refine zn ?_ | refine zo ?_ | refine zr ?_ | refine zs ?_ | refine zt ?_ | refine zu ?_ | refine zx ?_ | refine zy ?_ | refine zz ?_ | refine zza ?_ | refine zzb ?_ | refine zzc ?_ | refine zzd ?_ | refine zzf ?_ | refine zzg ?_)
        refine x_loads (cs := [c, .int .u64 x]) rfl rfl rfl (hpmk rfl (fun _ hk => hpp'.keep hk (fun _ h => h))) rfl (okq_load rfl rfl (by assumption)) ?_
        repeat (first | refine za ?_ | refine zb ?_ | refine zc ?_ | refine zj ?_ | refine zm ?_ | refine zn ?_ | refine zo ?_ | refine zr ?_ | refine zs ?_ | refine zt ?_ | refine zu ?_ | refine zx ?_ | refine zy ?_ | refine zz ?_ | refine zza ?_ | refine zzb ?_ | refine zzc ?_ | refine zzd ?_ | refine zzf ?_ | refine zzg ?_)
        refine x_load rfl rfl (hpmk rfl (fun _ hk => hk.cel c1' (fun h => h))) rfl (okq_load rfl rfl (by assumption)) ?_
        repeat (first | refine za ?_ | refine zb ?_ | refine zc ?_ | refine zj ?_ | refine zm ?_ | refine zn ?_ | refine zo ?_ | refine zr ?_ | refine zs ?_ | refine zt ?_ | refine zu ?_ | refine zx ?_ | refine zy ?_ | refine zz ?_ | refine zza ?_ | refine zzb ?_ | refine zzc ?_ | refine zzd ?_ | refine zzf ?_ | refine zzg ?_)
        refine x_call rfl rfl rfl ⟨rfl, rfl⟩ (burst_more t hT4 hI4 hB.wf hKL4 (beg_nil_ k) hl (by omega) (by rw [hlook, hth]; rfl)) ?_
        rintro _ H5 ⟨hk5, rfl⟩
        refine ⟨okm_keep hk5 (fun _ _ h => h), ?_⟩
        repeat (first | refine za ?_ | refine zb ?_ | refine zc ?_ | refine zj ?_ | refine zm ?_ | refine zn ?_ | refine zo ?_ | refine zr ?_ | refine zs ?_ | refine zt ?_ | refine zu ?_ | refine zx ?_ | refine zy ?_ | refine zz ?_ | refine zza ?_ | refine zzb ?_ | refine zzc ?_ | refine zzd ?_ | refine zzf ?_ | refine zzg ?_)
        repeat (first | refine za ?_ | refine zb ?_ | refine zc ?_ | refine zg ?_ | refine zj ?_ | refine zm ?_ | refine zn ?_ | refine zo ?_ | refine zr ?_ | refine zs ?_ | refine zt ?_ | refine zu ?_ | refine zx ?_ | refine zy ?_ | refine zz ?_ | refine zza ?_ | refine zzb ?_ | refine zzc ?_ | refine zzd ?_ | refine zzf ?_ | refine zzg ?_)
        refine nw_meet (decide ((t.size : Int) + (((t.put [] (k, x)).size : Int) - t.size) > most)) (by repeat (first | exact True.intro | refine ⟨rfl, ?_⟩)) ⟨hk5, fun e => ⟨rfl, ?_⟩, fun e => .inr ?_⟩
        · have := of_decide_eq_true e
          omega
        · have := of_decide_eq_false e
          omega
      · refine cw_held (fun _ => Keep Non H4) ⟨[12], [(6, 0), (10, 0), (11, 0), (17, 0)]⟩ (.op 0 (.op 1 (.op 2 (.op 3 (.op 4 (.op 5 (.op 6 (.op 7 (.op 8 (.op 9 (.op 10 (.op 11 (.op 14 (.op 15 (.op 16 (.op 17 (.op 12 (.op 13 (.op 18 (.op 19 (.nil))))))))))))))))))))) panicOk_body mixed (by kernel_rfl) ?_
        repeat (first | refine za ?_ | refine zb ?_ | refine zc ?_ | refine zj ?_ | refine zm ?_ | refine zn ?_ | refine zo ?_ | refine zr ?_ | refine zs ?_ | refine zt ?_ | refine zu ?_ | refine zx ?_ | refine zy ?_ | refine zz ?_ | refine zza ?_ | refine zzb ?_ | refine zzc ?_ | refine zzd ?_ | refine zzf ?_ | refine zzg ?_)
        repeat (first | refine zu ?_ | refine x_skip (okq_load rfl rfl (by assumption)) rfl rfl rfl ?_ | refine x_skipE ⟨rfl, rfl⟩ rfl rfl ?_)
        repeat (first | refine za ?_ | refine zb ?_ | refine zc ?_ | refine zj ?_ | refine zm ?_ | refine zn ?_ | refine zo ?_ | refine zr ?_ | refine zs ?_ | refine zt ?_ | refine zu ?_ | refine zx ?_ | refine zy ?_ | refine zz ?_ | refine zza ?_ | refine zzb ?_ | refine zzc ?_ | refine zzd ?_ | refine zzf ?_ | refine zzg ?_)
        repeat (first | refine zu ?_ | refine x_skip (okq_load rfl rfl (by assumption)) rfl rfl rfl ?_ | refine x_skipE ⟨rfl, rfl⟩ rfl rfl ?_)
        repeat (first | refine za ?_ | refine zb ?_ | refine zc ?_ | refine zj ?_ | refine zm ?_ | refine zn ?_ | refine zo ?_ | refine zr ?_ | refine zs ?_ | refine zt ?_ | refine zu ?_ | refine zx ?_ | refine zy ?_ | refine zz ?_ | refine zza ?_ | refine zzb ?_ | refine zzc ?_ | refine zzd ?_ | refine zzf ?_ | refine zzg ?_)
        repeat (first | refine za ?_ | refine zb ?_ | refine zc ?_ | refine zg ?_ | refine zj ?_ | refine zm ?_ | refine zn ?_ | refine zo ?_ | refine zr ?_ | refine zs ?_ | refine zt ?_ | refine zu ?_ | refine zx ?_ | refine zy ?_ | refine zz ?_ | refine zza ?_ | refine zzb ?_ | refine zzc ?_ | refine zzd ?_ | refine zzf ?_ | refine zzg ?_)
        refine nw_meet false (by repeat (first | exact True.intro | refine ⟨rfl, ?_⟩)) ⟨Keep.refl _ _, (fun e => nomatch e), fun _ => .inl rfl⟩
    · rintro e H5 ⟨hk5, ht, hf⟩
      have hk05 := hk04.non_trans hk5
      cases e with
      | true =>
        obtain ⟨g1, g2⟩ := ht rfl
        repeat (first | refine za ?_ | refine zb ?_ | refine zc ?_ | refine zg ?_ | refine zj ?_ | refine zm ?_ | refine zn ?_ | refine zo ?_ | refine zr ?_ | refine zs ?_ | refine zt ?_ | refine zu ?_ | refine zx ?_ | refine zy ?_ | refine zz ?_ | refine zza ?_ | refine zzb ?_ | refine zzc ?_ | refine zzd ?_ | refine zzf ?_ | refine zzg ?_)
        exact cw_ret3 rfl rfl rfl rfl (.full hl g1 g2 rfl hk05)
      | false =>
        have hm := hf rfl
        have hs5 := hk5.size
        have hT5 := hT4.keepN hk5
        have hI5 : L0.In H5 := hI4.mono hs5
        have hKL5 := hKL4.keepN hk5
        have c2a := hk5.cel c2' (fun h => h)
        have hpa : Cels H5 H1.size 0 [c, .int .u64 x] := hpp'.keep hk5 (fun _ h => h)
        have r1a := (r1.keep hk4 (fun h => h)).keep hk5 (fun h => h)
        have hbl : b < H.size := hB.gin b (by rw [hB.gb]; omega)
        have hbL0 : L0 b = none := by
          by_cases h : L0 b = none
          · exact h
          · rcases hL0n b h with h1 | ⟨h1, h2⟩
            · rw [hB.gb] at h1; omega
            · have := (hcc h1).1; omega
        have hkr5 := Keep.refl Non H5
        have hnil5 : Bs H5 (.slice none 0 0) [] := Bs.nil H5
        obtain ⟨sz, hsze⟩ : ∃ sz, sz = (t.put [] (k, x)).size := ⟨_, rfl⟩
        repeat (first | refine za ?_ | refine zb ?_ | refine zc ?_ | refine zg ?_ | refine zj ?_ | refine zm ?_ | refine zn ?_ | refine zo ?_ | refine zr ?_ | refine zs ?_ | refine zt ?_ | refine zu ?_ | refine zx ?_ | refine zy ?_ | refine zz ?_ | refine zza ?_ | refine zzb ?_ | refine zzc ?_ | refine zzd ?_ | refine zzf ?_ | refine zzg ?_)
        refine cw_held (fun _ => Keep Non H5) ⟨[6, 12], [(4, 0), (5, 0)]⟩ (.op 0 (.op 1 (.op 2 (.op 3 (.op 4 (.op 5 (.op 6 (.op 7 (.op 8 (.op 9 (.op 10 (.op 11 (.op 12 (.op 13 (.nil))))))))))))))) panicOk_body mixed (by kernel_rfl) ?_
        repeat (first | refine za ?_ | refine zb ?_ | refine zc ?_ | refine zj ?_ | refine zm ?_ | refine zn ?_ | refine zo ?_ | refine zr ?_ | refine zs ?_ | refine zt ?_ | refine zu ?_ | refine zx ?_ | refine zy ?_ | refine zz ?_ | refine zza ?_ | refine zzb ?_ | refine zzc ?_ | refine zzd ?_ | refine zzf ?_ | refine zzg ?_)
        refine x_load rfl rfl (hpmk rfl (fun _ hk => hk.cel c2a (fun h => h))) rfl (okq_load rfl rfl (by assumption)) ?_
        repeat (first | refine za ?_ | refine zb ?_ | refine zc ?_ | refine zj ?_ | refine zm ?_ | refine zn ?_ | refine zo ?_ | refine zr ?_ | refine zs ?_ | refine zt ?_ | refine zu ?_ | refine zx ?_ | refine zy ?_ | refine zz ?_ | refine zza ?_ | refine zzb ?_ | refine zzc ?_ | refine zzd ?_ | refine zzf ?_ | refine zzg ?_)
        refine x_loads (cs := [c, .int .u64 x]) rfl rfl rfl (hpmk rfl (fun _ hk => hpa.keep hk (fun _ h => h))) rfl (okq_load rfl rfl (by assumption)) ?_
        repeat (first | refine za ?_ | refine zb ?_ | refine zc ?_ | refine zj ?_ | refine zm ?_ | refine zn ?_ | refine zo ?_ | refine zr ?_ | refine zs ?_ | refine zt ?_ | refine zu ?_ | refine zx ?_ | refine zy ?_ | refine zz ?_ | refine zza ?_ | refine zzb ?_ | refine zzc ?_ | refine zzd ?_ | refine zzf ?_ | refine zzg ?_)
        refine x_call rfl rfl rfl ⟨rfl, rfl⟩ (burst_put t hT5 hI5 hB.wf hnil5 hKL5 (beg_nil_ k) hl (by omega)) ?_
        rintro _ H6 ⟨bn, L6, rfl, hk6, hE6, hI6, hT6⟩
        refine ⟨okm_free (fun c => by cases c <;> kernel_rfl), ?_⟩
        rw [← hsze] at hps1 hps2 hm ⊢
        have hs6 := hk6.size
        have r1b := r1a.keep hk6 (fun e => e.some hbL0)
        repeat (first | refine za ?_ | refine zb ?_ | refine zc ?_ | refine zj ?_ | refine zm ?_ | refine zn ?_ | refine zo ?_ | refine zr ?_ | refine zs ?_ | refine zt ?_ | refine zu ?_ | refine zx ?_ | refine zy ?_ | refine zz ?_ | refine zza ?_ | refine zzb ?_ | refine zzc ?_ | refine zzd ?_ | refine zzf ?_ | refine zzg ?_)
        refine x_store rfl rfl rfl rfl r1b (by simp) ⟨rfl, rfl⟩ ?_
        intro H7 hB7 hk7 hs7
        refine ⟨okm_free (fun c => by cases c <;> kernel_rfl), ?_⟩
        repeat (first | refine za ?_ | refine zb ?_ | refine zc ?_ | refine zj ?_ | refine zm ?_ | refine zn ?_ | refine zo ?_ | refine zr ?_ | refine zs ?_ | refine zt ?_ | refine zu ?_ | refine zx ?_ | refine zy ?_ | refine zz ?_ | refine zza ?_ | refine zzb ?_ | refine zzc ?_ | refine zzd ?_ | refine zzf ?_ | refine zzg ?_)
        have d3 : cel H7 b 3 = some (.int .i64 t.size) := by rw [hB7.cel]; rfl
        repeat (first | refine za ?_ | refine zb ?_ | refine zc ?_ | refine zg ?_ | refine zj ?_ | refine zm ?_ | refine zn ?_ | refine zo ?_ | refine zr ?_ | refine zs ?_ | refine zt ?_ | refine zu ?_ | refine zx ?_ | refine zy ?_ | refine zz ?_ | refine zza ?_ | refine zzb ?_ | refine zzc ?_ | refine zzd ?_ | refine zzf ?_ | refine zzg ?_)
        refine x_load rfl rfl (hpmt (d3)) rfl trivial ?_
        repeat (first | refine za ?_ | refine zb ?_ | refine zc ?_ | refine zg ?_ | refine zj ?_ | refine zm ?_ | refine zn ?_ | refine zo ?_ | refine zr ?_ | refine zs ?_ | refine zt ?_ | refine zu ?_ | refine zx ?_ | refine zy ?_ | refine zz ?_ | refine zza ?_ | refine zzb ?_ | refine zzc ?_ | refine zzd ?_ | refine zzf ?_ | refine zzg ?_)
        have hlive : (t.size : Int) + ((sz : Int) - t.size) = (sz : Int) := by omega
        rw [hlive]
        refine x_store rfl rfl rfl rfl hB7 (by simp) trivial ?_
        intro H8 hB8 hk8 hs8
        refine ⟨trivial, ?_⟩
        have d0 : cel H8 b 0 = some (ptr mb 0) := by rw [hB8.cel]; rfl
        have hk58 : Keep (fun z => Beh L0 [] z ∨ z = b) H5 H8 := ((hk6.mono (S' := fun z => Beh L0 [] z ∨ z = b) (fun _ _ e => .inl e)).step hk7 (fun _ _ e => .inr e)).step hk8 (fun _ _ e => .inr e)
        have hoffL : ∀ z, z < H.size → G z ≠ 3 → z ≠ b → ¬ (Beh L0 [] z ∨ z = b) := fun z hz hg hzb e => by
          rcases e with e | e
          · rcases hL0n z e.some with h1 | ⟨h1, h2⟩
            · exact hg h1
            · have := (hcc h1).1; omega
          · exact hzb e
        have hMo8 : Mo K H8 mb (t.pairs []) := ((r2.keepN hk4).keepN hk5).keep hk58 (fun z hz => by
          have h1 := r5 z hz
          exact hoffL z (hB.gin z (by omega)) (by omega) (fun e => by rw [e, hB.gb] at h1; omega))
        have hK8 : Bs H8 vk k := (hK.keepN hk05).keep hk58 (fun hne => by
          have h1 := hoff hne
          exact hoffL _ (hK.lt hne) (by omega) (fun e => by rw [e, hB.gb] at h1; omega))
        repeat (first | refine za ?_ | refine zb ?_ | refine zc ?_ | refine zg ?_ | refine zj ?_ | refine zm ?_ | refine zn ?_ | refine zo ?_ | refine zr ?_ | refine zs ?_ | refine zt ?_ | refine zu ?_ | refine zx ?_ | refine zy ?_ | refine zz ?_ | refine zza ?_ | refine zzb ?_ | refine zzc ?_ | refine zzd ?_ | refine zzf ?_ | refine zzg ?_)
        refine x_load rfl rfl (hpmt (d0)) rfl trivial ?_
        repeat (first | refine za ?_ | refine zb ?_ | refine zc ?_ | refine zg ?_ | refine zj ?_ | refine zm ?_ | refine zn ?_ | refine zo ?_ | refine zr ?_ | refine zs ?_ | refine zt ?_ | refine zu ?_ | refine zx ?_ | refine zy ?_ | refine zz ?_ | refine zza ?_ | refine zzb ?_ | refine zzc ?_ | refine zzd ?_ | refine zzf ?_ | refine zzg ?_)
        refine x_call rfl rfl rfl trivial (model_Put x hMo8 hrise (by omega) hK8 hl) ?_
        rintro _ H9 ⟨rfl, hk9, K', hEK, hM9⟩
        refine ⟨trivial, ?_⟩
        have hs9 := hk9.size
        have hs05 := hk05.size
        have hKin : ∀ z, K z ≠ 0 → z < H.size := fun z hz => hB.gin z (by have := r5 z hz; omega)
        have hK'old : ∀ z, z < H8.size → K' z = K z := hEK.old
        have hL6lt : ∀ z, z < H.size → L6 z = L z := fun z hz => by rw [hE6.low z (by omega), hE0.low z hz]
        have hmut : ∀ z, MutM K z → G z = 2 := fun z e => r5 z (by rcases e with e | e <;> omega)
        have hKL6 : ∀ z, K z ≠ 0 → L6 z = none := fun z hz => by
          rw [hL6lt z (hKin z hz)]
          by_cases h : L z = none
          · exact h
          · have h1 := r6 z h; have h2 := r5 z hz; omega
        have hkey9 : ∀ z, L6 z ≠ none → ¬ MutM K z := fun z hz e => hz (hKL6 z (by rcases e with e | e <;> omega))
        have hT8 : Tr L6 H8 (t.put [] (k, x)) [] bn := (hT6.keep hk7 (fun z hz e => by rw [e, hE6.low b (by omega), hbL0] at hz; cases hz) (fun z hz e => by have := hz.some; rw [e, hE6.low b (by omega), hbL0] at this; exact this rfl)).keep hk8 (fun z hz e => by rw [e, hE6.low b (by omega), hbL0] at hz; cases hz) (fun z hz e => by have := hz.some; rw [e, hE6.low b (by omega), hbL0] at this; exact this rfl)
        have hT9 : Tr L6 H9 (t.put [] (k, x)) [] bn := hT8.keep hk9 (fun z hz => hkey9 z (by rw [hz]; simp)) (fun z hz => hkey9 z hz.some)
        have hB9 := hB8.keep hk9 (fun e => by have := hmut b e; rw [hB.gb] at this; omega)
        repeat (first | refine za ?_ | refine zb ?_ | refine zc ?_ | refine zg ?_ | refine zj ?_ | refine zm ?_ | refine zn ?_ | refine zo ?_ | refine zr ?_ | refine zs ?_ | refine zt ?_ | refine zu ?_ | refine zx ?_ | refine zy ?_ | refine zz ?_ | refine zza ?_ | refine zzb ?_ | refine zzc ?_ | refine zzd ?_ | refine zzf ?_ | refine zzg ?_)
        refine cw_ret3 rfl rfl rfl rfl (.put hl (by rw [← hsze]; exact hm) rfl ?_ (mkG G H K' L6) (mkG_ext (by omega)) ⟨mkG_in hB.gin (hI6.mono (by omega)) hM9.kin (by omega), by unfold mkG; rw [if_pos hbl]; exact hB.gb, BT.put_wf hB.wf (beg_nil_ k) hl, ?_, hms, K', L6, mb, ptr bn 0, ?_, ?_, .inr ⟨bn, rfl, hT9⟩, hI6.mono (by omega), ?_, ?_⟩)
        · refine ((hk05.mono (S' := fun z => G z ≠ 0) (fun _ _ h => h.elim)).step hk58 (fun z hz e => ?_)).step hk9 (fun z _ e => by have := hmut z e; omega)
          rcases e with e | e
          · rcases hL0n z e.some with h1 | ⟨h1, h2⟩
            · omega
            · have := (hcc h1).1; omega
          · rw [e, hB.gb]; omega
        · rw [← hsze]
          rcases hm with h | h
          · have h1 := put_there_size t (w := []) (p := (k, x)) (beg_nil_ k) hB.wf (by rw [hlook, h]; obtain ⟨p, _, _, h3⟩ := getM_there.2 h; simp [h3])
            omega
          · exact h
        · rw [← hsze]; exact hB9
        · rw [BT.put_pairs hB.wf.wf0 (beg_nil_ k) hl]
          exact hM9
        · exact mkG_K (fun z hz hne => by rw [hK'old z (by omega)] at hne; exact r5 z hne) (fun z hz hne => by
            by_cases hz8 : z < H8.size
            · rw [hK'old z hz8] at hne; have := hKin z hne; omega
            · exact hI6.off (by omega))
        · exact mkG_L (fun z hz hne => by rw [hL6lt z hz] at hne; exact r6 z hne)
end put
end Go.Proofs.Ytaloblomncjgkaa.X
