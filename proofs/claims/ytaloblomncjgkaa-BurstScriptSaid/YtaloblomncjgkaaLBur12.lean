/- Chapter 15's statements: BurstScript. -/
import Derived.Test.YtaloblomncjgkaaRgt
import Derived.Test.YtaloblomncjgkaaDne
import Derived.Test.YtaloblomncjgkaaR7
namespace Go.Proofs.Ytaloblomncjgkaa.X
open Go Go.Proofs
set_option linter.unusedVariables false
set_option linter.unusedSimpArgs false
set_option maxRecDepth 10000
set_option maxHeartbeats 4000000

/-- an act: a key, a value, whether it is dropped -/
abbrev Ac := Bytes × Int × Bool
def encAc (x : Value × Int × Bool) : List Value := [x.1, .int .u64 x.2.1, .bool x.2.2]
theorem encAc_len (x : Value × Int × Bool) : (encAc x).length = 3 := rfl
def AcR (H : Heap) (x : Value × Int × Bool) (y : Ac) : Prop := x.2 = y.2 ∧ Bs H x.1 y.1

theorem walk_BurstScript {most : Int} {va vk : Value} {acts : List Ac} {k : Bytes} {H : Heap} (hA : Rd encAc (AcR H) H va acts) (hK : Bs H vk k) : Ret Try.prog 10 [.int .i64 most, va, vk] H (Yes H) := by
  have sA := hA.sl
  have cA := sA.cap
  have sK := hK.sl
  have cK := sK.cap
  refine ret_of Try.func10 rfl rfl rfl rfl ?_
  intro w0
  repeat (first | refine za ?_ | refine zb ?_ | refine zc ?_ | refine zg ?_ | refine zh ?_ | refine zj ?_ | refine zl ?_ | refine zm ?_ | refine zn ?_ | refine zo ?_ | refine zq ?_ | refine zt ?_ | refine zu ?_ | refine zv ?_ | refine zw ?_ | refine zx ?_ | refine zy ?_ | refine zz ?_ | refine zza ?_ | refine zzb ?_ | refine zzc ?_ | refine zzd ?_ | refine zze ?_ | refine zzf ?_ | refine zzg ?_)
  refine x_split 13 rfl (fun h1 => ?_) (fun h1 => ?_) <;> (try simp at h1)
  · repeat (first | refine za ?_ | refine zb ?_ | refine zc ?_ | refine zg ?_ | refine zh ?_ | refine zj ?_ | refine zl ?_ | refine zm ?_ | refine zn ?_ | refine zo ?_ | refine zq ?_ | refine zt ?_ | refine zu ?_ | refine zv ?_ | refine zw ?_ | refine zx ?_ | refine zy ?_ | refine zz ?_ | refine zza ?_ | refine zzb ?_ | refine zzc ?_ | refine zzd ?_ | refine zze ?_ | refine zzf ?_ | refine zzg ?_)
    refine x_call rfl rfl rfl trivial (awake15 _) ?_
    rintro _ Hz ⟨rfl, hkz⟩
    refine ⟨trivial, ?_⟩
    repeat (first | refine za ?_ | refine zb ?_ | refine zc ?_ | refine zg ?_ | refine zh ?_ | refine zj ?_ | refine zl ?_ | refine zm ?_ | refine zn ?_ | refine zo ?_ | refine zq ?_ | refine zt ?_ | refine zu ?_ | refine zv ?_ | refine zw ?_ | refine zx ?_ | refine zy ?_ | refine zz ?_ | refine zza ?_ | refine zzb ?_ | refine zzc ?_ | refine zzd ?_ | refine zze ?_ | refine zzf ?_ | refine zzg ?_)
    exact cw_ret1 rfl rfl ⟨rfl, (Keep.refl Non H).non_trans hkz⟩
  · repeat (first | refine za ?_ | refine zb ?_ | refine zc ?_ | refine zg ?_ | refine zh ?_ | refine zj ?_ | refine zl ?_ | refine zm ?_ | refine zn ?_ | refine zo ?_ | refine zq ?_ | refine zt ?_ | refine zu ?_ | refine zv ?_ | refine zw ?_ | refine zx ?_ | refine zy ?_ | refine zz ?_ | refine zza ?_ | refine zzb ?_ | refine zzc ?_ | refine zzd ?_ | refine zze ?_ | refine zzf ?_ | refine zzg ?_)
    refine x_split 18 rfl (fun h2 => ?_) (fun h2 => ?_) <;> (try simp at h2)
    · repeat (first | refine za ?_ | refine zb ?_ | refine zc ?_ | refine zg ?_ | refine zh ?_ | refine zj ?_ | refine zl ?_ | refine zm ?_ | refine zn ?_ | refine zo ?_ | refine zq ?_ | refine zt ?_ | refine zu ?_ | refine zv ?_ | refine zw ?_ | refine zx ?_ | refine zy ?_ | refine zz ?_ | refine zza ?_ | refine zzb ?_ | refine zzc ?_ | refine zzd ?_ | refine zze ?_ | refine zzf ?_ | refine zzg ?_)
      refine x_call rfl rfl rfl trivial (awake15 _) ?_
      rintro _ Hz ⟨rfl, hkz⟩
      refine ⟨trivial, ?_⟩
      repeat (first | refine za ?_ | refine zb ?_ | refine zc ?_ | refine zg ?_ | refine zh ?_ | refine zj ?_ | refine zl ?_ | refine zm ?_ | refine zn ?_ | refine zo ?_ | refine zq ?_ | refine zt ?_ | refine zu ?_ | refine zv ?_ | refine zw ?_ | refine zx ?_ | refine zy ?_ | refine zz ?_ | refine zza ?_ | refine zzb ?_ | refine zzc ?_ | refine zzd ?_ | refine zze ?_ | refine zzf ?_ | refine zzg ?_)
      exact cw_ret1 rfl rfl ⟨rfl, (Keep.refl Non H).non_trans hkz⟩
    · repeat (first | refine za ?_ | refine zb ?_ | refine zc ?_ | refine zg ?_ | refine zh ?_ | refine zj ?_ | refine zl ?_ | refine zm ?_ | refine zn ?_ | refine zo ?_ | refine zq ?_ | refine zt ?_ | refine zu ?_ | refine zv ?_ | refine zw ?_ | refine zx ?_ | refine zy ?_ | refine zz ?_ | refine zza ?_ | refine zzb ?_ | refine zzc ?_ | refine zzd ?_ | refine zze ?_ | refine zzf ?_ | refine zzg ?_)
      refine cw_cond rfl (fun h3 => ?_) (fun h3 => ?_) <;> (try simp at h3)
      · repeat (first | refine za ?_ | refine zb ?_ | refine zc ?_ | refine zg ?_ | refine zh ?_ | refine zj ?_ | refine zl ?_ | refine zm ?_ | refine zn ?_ | refine zo ?_ | refine zq ?_ | refine zt ?_ | refine zu ?_ | refine zv ?_ | refine zw ?_ | refine zx ?_ | refine zy ?_ | refine zz ?_ | refine zza ?_ | refine zzb ?_ | refine zzc ?_ | refine zzd ?_ | refine zze ?_ | refine zzf ?_ | refine zzg ?_)
        refine x_call rfl rfl rfl trivial (awake15 _) ?_
        rintro _ Hz ⟨rfl, hkz⟩
        refine ⟨trivial, ?_⟩
        repeat (first | refine za ?_ | refine zb ?_ | refine zc ?_ | refine zg ?_ | refine zh ?_ | refine zj ?_ | refine zl ?_ | refine zm ?_ | refine zn ?_ | refine zo ?_ | refine zq ?_ | refine zt ?_ | refine zu ?_ | refine zv ?_ | refine zw ?_ | refine zx ?_ | refine zy ?_ | refine zz ?_ | refine zza ?_ | refine zzb ?_ | refine zzc ?_ | refine zzd ?_ | refine zze ?_ | refine zzf ?_ | refine zzg ?_)
        exact cw_ret1 rfl rfl ⟨rfl, (Keep.refl Non H).non_trans hkz⟩
      · repeat (first | refine za ?_ | refine zb ?_ | refine zc ?_ | refine zg ?_ | refine zh ?_ | refine zj ?_ | refine zl ?_ | refine zm ?_ | refine zn ?_ | refine zo ?_ | refine zq ?_ | refine zt ?_ | refine zu ?_ | refine zv ?_ | refine zw ?_ | refine zx ?_ | refine zy ?_ | refine zz ?_ | refine zza ?_ | refine zzb ?_ | refine zzc ?_ | refine zzd ?_ | refine zze ?_ | refine zzf ?_ | refine zzg ?_)
        refine x_call rfl rfl rfl trivial (tree_New most) ?_
        rintro v1 H1 h1'
        refine ⟨trivial, ?_⟩
        rcases h1' with ⟨h4, rfl, rfl⟩ | ⟨h4, h5, hkk1, b, G1, rfl, hF1, hB1⟩
        · repeat (first | refine za ?_ | refine zb ?_ | refine zc ?_ | refine zg ?_ | refine zh ?_ | refine zj ?_ | refine zl ?_ | refine zm ?_ | refine zn ?_ | refine zo ?_ | refine zq ?_ | refine zt ?_ | refine zu ?_ | refine zv ?_ | refine zw ?_ | refine zx ?_ | refine zy ?_ | refine zz ?_ | refine zza ?_ | refine zzb ?_ | refine zzc ?_ | refine zzd ?_ | refine zze ?_ | refine zzf ?_ | refine zzg ?_)
          refine x_build (cs := [.slice none 0 0]) rfl rfl rfl (by simp) rfl trivial ?_
          refine x_box rfl rfl rfl trivial ?_
          intro H2 hn2
          refine ⟨trivial, ?_⟩
          repeat (first | refine za ?_ | refine zb ?_ | refine zc ?_ | refine zg ?_ | refine zh ?_ | refine zj ?_ | refine zl ?_ | refine zm ?_ | refine zn ?_ | refine zo ?_ | refine zq ?_ | refine zt ?_ | refine zu ?_ | refine zv ?_ | refine zw ?_ | refine zx ?_ | refine zy ?_ | refine zz ?_ | refine zza ?_ | refine zzb ?_ | refine zzc ?_ | refine zzd ?_ | refine zze ?_ | refine zzf ?_ | refine zzg ?_)
          refine cw_say 31 (.bool false) rfl (by have : most < 0 := (by omega); simp [this]) ?_
          repeat (first | refine za ?_ | refine zb ?_ | refine zc ?_ | refine zg ?_ | refine zh ?_ | refine zj ?_ | refine zl ?_ | refine zm ?_ | refine zn ?_ | refine zo ?_ | refine zq ?_ | refine zt ?_ | refine zu ?_ | refine zv ?_ | refine zw ?_ | refine zx ?_ | refine zy ?_ | refine zz ?_ | refine zza ?_ | refine zzb ?_ | refine zzc ?_ | refine zzd ?_ | refine zze ?_ | refine zzf ?_ | refine zzg ?_)
          refine cw_loop (fun _ : Unit => [(1, va), (7, .pointer none), (9, .int .i64 0)]) (fun _ H' => H2 = H') (fun _ => 0) () (by repeat (first | exact True.intro | refine ⟨rfl, ?_⟩)) rfl ?_
          rintro _ _ rfl
          repeat (first | refine za ?_ | refine zb ?_ | refine zc ?_ | refine zg ?_ | refine zh ?_ | refine zj ?_ | refine zl ?_ | refine zm ?_ | refine zn ?_ | refine zo ?_ | refine zq ?_ | refine zt ?_ | refine zu ?_ | refine zv ?_ | refine zw ?_ | refine zx ?_ | refine zy ?_ | refine zz ?_ | refine zza ?_ | refine zzb ?_ | refine zzc ?_ | refine zzd ?_ | refine zze ?_ | refine zzf ?_ | refine zzg ?_)
          refine x_split 36 rfl (fun h6 => ?_) (fun h6 => ?_) <;> (try simp at h6)
          · repeat (first | refine za ?_ | refine zb ?_ | refine zc ?_ | refine zg ?_ | refine zh ?_ | refine zj ?_ | refine zl ?_ | refine zm ?_ | refine zn ?_ | refine zo ?_ | refine zq ?_ | refine zt ?_ | refine zu ?_ | refine zv ?_ | refine zw ?_ | refine zx ?_ | refine zy ?_ | refine zz ?_ | refine zza ?_ | refine zzb ?_ | refine zzc ?_ | refine zzd ?_ | refine zze ?_ | refine zzf ?_ | refine zzg ?_)
            refine x_call rfl rfl rfl trivial (awake15 _) ?_
            rintro _ Hz ⟨rfl, hkz⟩
            refine ⟨trivial, ?_⟩
            repeat (first | refine za ?_ | refine zb ?_ | refine zc ?_ | refine zg ?_ | refine zh ?_ | refine zj ?_ | refine zl ?_ | refine zm ?_ | refine zn ?_ | refine zo ?_ | refine zq ?_ | refine zt ?_ | refine zu ?_ | refine zv ?_ | refine zw ?_ | refine zx ?_ | refine zy ?_ | refine zz ?_ | refine zza ?_ | refine zzb ?_ | refine zzc ?_ | refine zzd ?_ | refine zze ?_ | refine zzf ?_ | refine zzg ?_)
            exact cw_ret1 rfl rfl ⟨rfl, (hn2.keep).non_trans hkz⟩
          · repeat (first | refine za ?_ | refine zb ?_ | refine zc ?_ | refine zg ?_ | refine zh ?_ | refine zj ?_ | refine zl ?_ | refine zm ?_ | refine zn ?_ | refine zo ?_ | refine zq ?_ | refine zt ?_ | refine zu ?_ | refine zv ?_ | refine zw ?_ | refine zx ?_ | refine zy ?_ | refine zz ?_ | refine zza ?_ | refine zzb ?_ | refine zzc ?_ | refine zzd ?_ | refine zze ?_ | refine zzf ?_ | refine zzg ?_)
            refine x_call rfl rfl rfl trivial (awake15 _) ?_
            rintro _ Hz ⟨rfl, hkz⟩
            refine ⟨trivial, ?_⟩
            repeat (first | refine za ?_ | refine zb ?_ | refine zc ?_ | refine zg ?_ | refine zh ?_ | refine zj ?_ | refine zl ?_ | refine zm ?_ | refine zn ?_ | refine zo ?_ | refine zq ?_ | refine zt ?_ | refine zu ?_ | refine zv ?_ | refine zw ?_ | refine zx ?_ | refine zy ?_ | refine zz ?_ | refine zza ?_ | refine zzb ?_ | refine zzc ?_ | refine zzd ?_ | refine zze ?_ | refine zzf ?_ | refine zzg ?_)
            exact cw_ret1 rfl rfl ⟨rfl, (hn2.keep).non_trans hkz⟩
        · obtain ⟨m, rfl⟩ := Int.eq_ofNat_of_zero_le h4
          have hM1 : Mine H G1 H1 b m .nil := ⟨hB1, hF1, hkk1⟩
          repeat (first | refine za ?_ | refine zb ?_ | refine zc ?_ | refine zg ?_ | refine zh ?_ | refine zj ?_ | refine zl ?_ | refine zm ?_ | refine zn ?_ | refine zo ?_ | refine zq ?_ | refine zt ?_ | refine zu ?_ | refine zv ?_ | refine zw ?_ | refine zx ?_ | refine zy ?_ | refine zz ?_ | refine zza ?_ | refine zzb ?_ | refine zzc ?_ | refine zzd ?_ | refine zze ?_ | refine zzf ?_ | refine zzg ?_)
          refine x_build (cs := [.slice none 0 0]) rfl rfl rfl (by simp) rfl trivial ?_
          refine x_box rfl rfl rfl trivial ?_
          intro H2 hn2
          refine ⟨trivial, ?_⟩
          have hD2 := Duo.start hM1 hn2.blk hn2.keep hn2.size
          generalize H1.size = c at hD2 ⊢
          repeat (first | refine za ?_ | refine zb ?_ | refine zc ?_ | refine zg ?_ | refine zh ?_ | refine zj ?_ | refine zl ?_ | refine zm ?_ | refine zn ?_ | refine zo ?_ | refine zq ?_ | refine zt ?_ | refine zu ?_ | refine zv ?_ | refine zw ?_ | refine zx ?_ | refine zy ?_ | refine zz ?_ | refine zza ?_ | refine zzb ?_ | refine zzc ?_ | refine zzd ?_ | refine zze ?_ | refine zzf ?_ | refine zzg ?_)
          refine cw_loop (fun i : Nat => [(1, va), (2, vk), (7, ptr b 0), (8, ptr c 0), (9, .int .i64 i)]) (fun i H' => i ≤ acts.length ∧ DoneB H b m c i H') (fun i => acts.length - i) 0 (by repeat (first | exact True.intro | refine ⟨rfl, ?_⟩)) ⟨Nat.zero_le _, _, _, .nil, hD2, Nat.zero_le _⟩ ?_
          rintro i H3 ⟨hi, G, W, t, hD, hct⟩
          have hA3 := Rd.keepN hA hD.mine.keep
          repeat (first | refine za ?_ | refine zb ?_ | refine zc ?_ | refine zg ?_ | refine zh ?_ | refine zj ?_ | refine zl ?_ | refine zm ?_ | refine zn ?_ | refine zo ?_ | refine zq ?_ | refine zt ?_ | refine zu ?_ | refine zv ?_ | refine zw ?_ | refine zx ?_ | refine zy ?_ | refine zz ?_ | refine zza ?_ | refine zzb ?_ | refine zzc ?_ | refine zzd ?_ | refine zze ?_ | refine zzf ?_ | refine zzg ?_)
          refine x_split 36 rfl (fun h6 => ?_) (fun h6 => ?_) <;> (try simp at h6)
          · obtain ⟨y, hy⟩ : ∃ y, acts[i]? = some y := ⟨_, List.getElem?_eq_getElem (by omega)⟩
            obtain ⟨x, hx, hxc⟩ := Rd.cels hA3 encAc_len hy
            obtain ⟨x', hx', hxc'⟩ := Rd.cel hA3 encAc_len hy
            have q0' := hxc' 0 (by omega)
            have hKa := hx'.2.keepN hD.mine.keep
            have sKa := hKa.sl
            have q0 : cel H3 (sb va) (so va + i * 3 + 0) = some x'.1 := q0'
            repeat (first | refine za ?_ | refine zb ?_ | refine zc ?_ | refine zg ?_ | refine zh ?_ | refine zj ?_ | refine zl ?_ | refine zm ?_ | refine zn ?_ | refine zo ?_ | refine zq ?_ | refine zt ?_ | refine zu ?_ | refine zv ?_ | refine zw ?_ | refine zx ?_ | refine zy ?_ | refine zz ?_ | refine zza ?_ | refine zzb ?_ | refine zzc ?_ | refine zzd ?_ | refine zze ?_ | refine zzf ?_ | refine zzg ?_)
            refine x_load rfl rfl (hpmt (q0)) rfl trivial ?_
            repeat (first | refine za ?_ | refine zb ?_ | refine zc ?_ | refine zg ?_ | refine zh ?_ | refine zj ?_ | refine zl ?_ | refine zm ?_ | refine zn ?_ | refine zo ?_ | refine zq ?_ | refine zt ?_ | refine zu ?_ | refine zv ?_ | refine zw ?_ | refine zx ?_ | refine zy ?_ | refine zz ?_ | refine zza ?_ | refine zzb ?_ | refine zzc ?_ | refine zzd ?_ | refine zze ?_ | refine zzf ?_ | refine zzg ?_)
            refine cw_cond rfl (fun hlong => ?_) (fun hlong => ?_) <;> (try simp at hlong)
            · repeat (first | refine za ?_ | refine zb ?_ | refine zc ?_ | refine zg ?_ | refine zh ?_ | refine zj ?_ | refine zl ?_ | refine zm ?_ | refine zn ?_ | refine zo ?_ | refine zq ?_ | refine zt ?_ | refine zu ?_ | refine zv ?_ | refine zw ?_ | refine zx ?_ | refine zy ?_ | refine zz ?_ | refine zza ?_ | refine zzb ?_ | refine zzc ?_ | refine zzd ?_ | refine zze ?_ | refine zzf ?_ | refine zzg ?_)
              refine x_call rfl rfl rfl trivial (awake15 _) ?_
              rintro _ Hz ⟨rfl, hkz⟩
              refine ⟨trivial, ?_⟩
              repeat (first | refine za ?_ | refine zb ?_ | refine zc ?_ | refine zg ?_ | refine zh ?_ | refine zj ?_ | refine zl ?_ | refine zm ?_ | refine zn ?_ | refine zo ?_ | refine zq ?_ | refine zt ?_ | refine zu ?_ | refine zv ?_ | refine zw ?_ | refine zx ?_ | refine zy ?_ | refine zz ?_ | refine zza ?_ | refine zzb ?_ | refine zzc ?_ | refine zzd ?_ | refine zze ?_ | refine zzf ?_ | refine zzg ?_)
              exact cw_ret1 rfl rfl ⟨rfl, (hD.mine.keep).non_trans hkz⟩
            · have hKx := hx.2.keepN hD.mine.keep
              have hyl : y.1.length ≤ 30 := by omega
              repeat (first | refine za ?_ | refine zb ?_ | refine zc ?_ | refine zg ?_ | refine zh ?_ | refine zj ?_ | refine zl ?_ | refine zm ?_ | refine zn ?_ | refine zo ?_ | refine zq ?_ | refine zt ?_ | refine zu ?_ | refine zv ?_ | refine zw ?_ | refine zx ?_ | refine zy ?_ | refine zz ?_ | refine zza ?_ | refine zzb ?_ | refine zzc ?_ | refine zzd ?_ | refine zze ?_ | refine zzf ?_ | refine zzg ?_)
              refine x_loads (cs := encAc x) rfl rfl rfl (hpmt hxc) rfl trivial ?_
              refine x_call rfl rfl rfl trivial (law_done x.2.1 x.2.2 hD (by omega) (by omega) hKx (fun hne => hD.mine.off (hx.2.lt hne)) (by omega)) ?_
              rintro _ H4 ⟨rfl, hk4, G4, W4, t4, hD4, hc4⟩
              refine ⟨trivial, ?_⟩
              repeat (first | refine za ?_ | refine zb ?_ | refine zc ?_ | refine zg ?_ | refine zh ?_ | refine zj ?_ | refine zl ?_ | refine zm ?_ | refine zn ?_ | refine zo ?_ | refine zq ?_ | refine zt ?_ | refine zu ?_ | refine zv ?_ | refine zw ?_ | refine zx ?_ | refine zy ?_ | refine zz ?_ | refine zza ?_ | refine zzb ?_ | refine zzc ?_ | refine zzd ?_ | refine zze ?_ | refine zzf ?_ | refine zzg ?_)
              refine x_call rfl rfl rfl trivial (law_right hD4.mine.bu (by omega) (by omega) hD4.ref.mp) ?_
              rintro _ H5 ⟨hk5, rfl⟩
              refine ⟨trivial, ?_⟩
              have hD5 := hD4.keepN hk5
              repeat (first | refine za ?_ | refine zb ?_ | refine zc ?_ | refine zg ?_ | refine zh ?_ | refine zj ?_ | refine zl ?_ | refine zm ?_ | refine zn ?_ | refine zo ?_ | refine zq ?_ | refine zt ?_ | refine zu ?_ | refine zv ?_ | refine zw ?_ | refine zx ?_ | refine zy ?_ | refine zz ?_ | refine zza ?_ | refine zzb ?_ | refine zzc ?_ | refine zzd ?_ | refine zze ?_ | refine zzf ?_ | refine zzg ?_)
              refine x_call rfl rfl rfl trivial (law_asked (n := (i : Int)) hD5.mine.bu (by omega) hD5.ref.mp (hK.keepN hD5.mine.keep) (by omega)) ?_
              rintro _ H6 ⟨rfl, hk6⟩
              refine ⟨trivial, ?_⟩
              have hD6 := hD5.keepN hk6
              obtain ⟨x6, hx6, hxc6⟩ := Rd.cel (Rd.keepN hA hD6.mine.keep) encAc_len hy
              have q6 : cel H6 (sb va) (so va + i * 3 + 0) = some x6.1 := hxc6 0 (by omega)
              have hK6 := hx6.2.keepN hD6.mine.keep
              repeat (first | refine za ?_ | refine zb ?_ | refine zc ?_ | refine zg ?_ | refine zh ?_ | refine zj ?_ | refine zl ?_ | refine zm ?_ | refine zn ?_ | refine zo ?_ | refine zq ?_ | refine zt ?_ | refine zu ?_ | refine zv ?_ | refine zw ?_ | refine zx ?_ | refine zy ?_ | refine zz ?_ | refine zza ?_ | refine zzb ?_ | refine zzc ?_ | refine zzd ?_ | refine zze ?_ | refine zzf ?_ | refine zzg ?_)
              refine x_load rfl rfl (hpmt (q6)) rfl trivial ?_
              repeat (first | refine za ?_ | refine zb ?_ | refine zc ?_ | refine zg ?_ | refine zh ?_ | refine zj ?_ | refine zl ?_ | refine zm ?_ | refine zn ?_ | refine zo ?_ | refine zq ?_ | refine zt ?_ | refine zu ?_ | refine zv ?_ | refine zw ?_ | refine zx ?_ | refine zy ?_ | refine zz ?_ | refine zza ?_ | refine zzb ?_ | refine zzc ?_ | refine zzd ?_ | refine zze ?_ | refine zzf ?_ | refine zzg ?_)
              refine x_call rfl rfl rfl trivial (law_asked (n := 3) hD6.mine.bu (by omega) hD6.ref.mp hK6 (by omega)) ?_
              rintro _ H7 ⟨rfl, hk7⟩
              refine ⟨trivial, ?_⟩
              repeat (first | refine za ?_ | refine zb ?_ | refine zc ?_ | refine zg ?_ | refine zh ?_ | refine zj ?_ | refine zl ?_ | refine zm ?_ | refine zn ?_ | refine zo ?_ | refine zq ?_ | refine zt ?_ | refine zu ?_ | refine zv ?_ | refine zw ?_ | refine zx ?_ | refine zy ?_ | refine zz ?_ | refine zza ?_ | refine zzb ?_ | refine zzc ?_ | refine zzd ?_ | refine zze ?_ | refine zzf ?_ | refine zzg ?_)
              exact nw_round (i + 1) (by repeat (first | exact True.intro | refine ⟨rfl, ?_⟩)) ⟨by omega, G4, W4, t4, hD6.keepN hk7, by omega⟩ (by omega)
          · repeat (first | refine za ?_ | refine zb ?_ | refine zc ?_ | refine zg ?_ | refine zh ?_ | refine zj ?_ | refine zl ?_ | refine zm ?_ | refine zn ?_ | refine zo ?_ | refine zq ?_ | refine zt ?_ | refine zu ?_ | refine zv ?_ | refine zw ?_ | refine zx ?_ | refine zy ?_ | refine zz ?_ | refine zza ?_ | refine zzb ?_ | refine zzc ?_ | refine zzd ?_ | refine zze ?_ | refine zzf ?_ | refine zzg ?_)
            refine x_call rfl rfl rfl trivial (awake15 _) ?_
            rintro _ Hz ⟨rfl, hkz⟩
            refine ⟨trivial, ?_⟩
            repeat (first | refine za ?_ | refine zb ?_ | refine zc ?_ | refine zg ?_ | refine zh ?_ | refine zj ?_ | refine zl ?_ | refine zm ?_ | refine zn ?_ | refine zo ?_ | refine zq ?_ | refine zt ?_ | refine zu ?_ | refine zv ?_ | refine zw ?_ | refine zx ?_ | refine zy ?_ | refine zz ?_ | refine zza ?_ | refine zzb ?_ | refine zzc ?_ | refine zzd ?_ | refine zze ?_ | refine zzf ?_ | refine zzg ?_)
            exact cw_ret1 rfl rfl ⟨rfl, (hD.mine.keep).non_trans hkz⟩
end Go.Proofs.Ytaloblomncjgkaa.X
