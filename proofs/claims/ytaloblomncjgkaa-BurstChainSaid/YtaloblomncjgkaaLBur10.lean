/- Chapter 15's statements: BurstChain. -/
import Derived.Test.YtaloblomncjgkaaRgt
import Derived.Test.YtaloblomncjgkaaDne
import Derived.Test.YtaloblomncjgkaaKch
import XDev
namespace Go.Proofs.Ytaloblomncjgkaa.X
open Go Go.Proofs
set_option linter.unusedVariables false
set_option linter.unusedSimpArgs false
set_option maxRecDepth 10000
set_option maxHeartbeats 4000000

/-- the j-th key -/
def ckey (w : Bytes) (j : Nat) : Bytes := w ++ [UInt8.ofNat (20 * j)]
theorem ckey_ne {w : Bytes} {i j : Nat} (hi : i < 9) (hj : j < 9) (h : i ≠ j) : ckey w i ≠ ckey w j := fun e => by
  unfold ckey at e
  have := List.append_cancel_left e
  simp at this
  have := congrArg UInt8.toNat this
  simp at this
  omega
theorem ckey_len (w : Bytes) (j : Nat) : (ckey w j).length = w.length + 1 := by unfold ckey; simp
/-- all keys begin so -/
def Beg (w : Bytes) (l : List Pr) : Prop := ∀ p ∈ l, ∃ b, p.1 = [] ++ (w ++ [b])
theorem Beg.put {w : Bytes} {l : List Pr} (h : Beg w l) (j : Nat) (x : Int) : Beg w (putM l (ckey w j) x) := fun p hp => by
  rcases putM_mem hp with rfl | hp
  · exact ⟨_, rfl⟩
  · exact h p hp
theorem chain_cell {w : Bytes} {H H1 H2 H3 : Heap} {vw v1 v3 : Value} {b : UInt8} (hap1 : App 1 H H1 (.slice none 0 0) v1 0 [] (bvs w) w.length) (hn2 : New H1 H2 [kb b]) (hap3 : App 1 H2 H3 v1 v3 w.length (bvs w) [kb b] 1) :
    Keep Non H H3 ∧ Bs H3 v3 (w ++ [b]) ∧ H.size ≤ sb v3 := by
  have hk1 := hap1.old (Fresh.nil H) (Keep.refl _ _)
  have hf1 := hap1.fresh (Fresh.nil H) (Nat.le_refl _)
  have hk2 : Keep Non H H2 := hn2.old hk1
  have hk3 := hap3.old hf1 hk2
  have hf3 := hap3.fresh hf1 hk2.size
  have hO : Own 1 H3 v3 (w ++ [b]).length (bvs (w ++ [b])) := by rw [bvs_append, List.length_append]; exact hap3.own
  exact ⟨hk3, hO.bs, hf3 (by have := hO.sl.cap.1; simp at this; omega)⟩
theorem walk_BurstChain {vw : Value} {w : Bytes} {first : Int} {H : Heap} (hV : Bs H vw w) : Ret Try.prog 9 [vw, .int .i64 first] H (Yes H) := by
  have sV := hV.sl
  have cV := sV.cap
  refine ret_of Try.func9 rfl rfl rfl rfl ?_
  intro w0
  repeat (first | refine za ?_ | refine zb ?_ | refine zc ?_ | refine zd ?_ | refine zg ?_ | refine zi ?_ | refine zj ?_ | refine zl ?_ | refine zm ?_ | refine zn ?_ | refine zo ?_ | refine zr ?_ | refine zu ?_ | refine zx ?_ | refine zy ?_ | refine zz ?_ | refine zza ?_ | refine zzb ?_ | refine zzc ?_ | refine zzd ?_ | refine zze ?_ | refine zzf ?_ | refine zzg ?_)
  refine cw_cond rfl (fun hw => ?_) (fun hw => ?_) <;> (try simp at hw)
  · repeat (first | refine za ?_ | refine zb ?_ | refine zc ?_ | refine zd ?_ | refine zg ?_ | refine zi ?_ | refine zj ?_ | refine zl ?_ | refine zm ?_ | refine zn ?_ | refine zo ?_ | refine zr ?_ | refine zu ?_ | refine zx ?_ | refine zy ?_ | refine zz ?_ | refine zza ?_ | refine zzb ?_ | refine zzc ?_ | refine zzd ?_ | refine zze ?_ | refine zzf ?_ | refine zzg ?_)
    refine x_call rfl rfl rfl trivial (awake15 _) ?_
    rintro _ Hz ⟨rfl, hkz⟩
    refine ⟨trivial, ?_⟩
    repeat (first | refine za ?_ | refine zb ?_ | refine zc ?_ | refine zd ?_ | refine zg ?_ | refine zi ?_ | refine zj ?_ | refine zl ?_ | refine zm ?_ | refine zn ?_ | refine zo ?_ | refine zr ?_ | refine zu ?_ | refine zx ?_ | refine zy ?_ | refine zz ?_ | refine zza ?_ | refine zzb ?_ | refine zzc ?_ | refine zzd ?_ | refine zze ?_ | refine zzf ?_ | refine zzg ?_)
    exact cw_ret1 rfl rfl ⟨rfl, (Keep.refl Non H).non_trans hkz⟩
  · have hw30 : w.length ≤ 30 := by omega
    repeat (first | refine za ?_ | refine zb ?_ | refine zc ?_ | refine zd ?_ | refine zg ?_ | refine zi ?_ | refine zj ?_ | refine zl ?_ | refine zm ?_ | refine zn ?_ | refine zo ?_ | refine zr ?_ | refine zu ?_ | refine zx ?_ | refine zy ?_ | refine zz ?_ | refine zza ?_ | refine zzb ?_ | refine zzc ?_ | refine zzd ?_ | refine zze ?_ | refine zzf ?_ | refine zzg ?_)
    refine x_call rfl rfl rfl trivial (tree_New 500) ?_
    rintro v1 H1 h1
    refine ⟨trivial, ?_⟩
    rcases h1 with ⟨h1, _⟩ | ⟨_, _, hkk1, b, G1, rfl, hF1, hB1⟩
    · omega
    have hM1 : Mine H G1 H1 b 500 .nil := ⟨hB1, hF1, hkk1⟩
    repeat (first | refine za ?_ | refine zb ?_ | refine zc ?_ | refine zd ?_ | refine zg ?_ | refine zi ?_ | refine zj ?_ | refine zl ?_ | refine zm ?_ | refine zn ?_ | refine zo ?_ | refine zr ?_ | refine zu ?_ | refine zx ?_ | refine zy ?_ | refine zz ?_ | refine zza ?_ | refine zzb ?_ | refine zzc ?_ | refine zzd ?_ | refine zze ?_ | refine zzf ?_ | refine zzg ?_)
    refine x_build (cs := [.slice none 0 0]) rfl rfl rfl (by simp) rfl trivial ?_
    refine x_box rfl rfl rfl trivial ?_
    intro H2 hn2
    refine ⟨trivial, ?_⟩
    have hD2 := Duo.start hM1 hn2.blk hn2.keep hn2.size
    generalize H1.size = c at hD2 ⊢
    repeat (first | refine za ?_ | refine zb ?_ | refine zc ?_ | refine zd ?_ | refine zg ?_ | refine zi ?_ | refine zj ?_ | refine zl ?_ | refine zm ?_ | refine zn ?_ | refine zo ?_ | refine zr ?_ | refine zu ?_ | refine zx ?_ | refine zy ?_ | refine zz ?_ | refine zza ?_ | refine zzb ?_ | refine zzc ?_ | refine zzd ?_ | refine zze ?_ | refine zzf ?_ | refine zzg ?_)
    refine cw_loop (fun i : Nat => [(0, vw), (1, .int .i64 first), (5, ptr b 0), (6, ptr c 0), (7, .int .i64 i)]) (fun i H' => i ≤ 9 ∧ ∃ G W t, Duo H G W H' b 500 c t (t.pairs []) ∧ t.size ≤ 1 + (i - 8) * 40 ∧ t.count = i ∧ t.isNode = decide (8 < i) ∧ Beg w (t.pairs []) ∧ (∀ j, j < 9 → there (t.pairs []) (ckey w j) = decide (j < i)) ∧ (i = 9 → t.IsChain w)) (fun i => 9 - i) 0 (by repeat (first | exact True.intro | refine ⟨rfl, ?_⟩)) ⟨by omega, _, _, .nil, hD2, Nat.zero_le _, rfl, rfl, (fun p hp => by cases hp), (fun j _ => by simp [BT.pairs, there]), (fun e => by omega)⟩ ?_
    rintro i H3 ⟨hi, G, W, t, hD, hsz, hct, hnd, hbg, hth, hch⟩
    have hV3 := hV.keepN hD.mine.keep
    have hlen := hD.mine.bu.len
    have hW := hD.mine.bu.wf
    repeat (first | refine za ?_ | refine zb ?_ | refine zc ?_ | refine zd ?_ | refine zg ?_ | refine zi ?_ | refine zj ?_ | refine zl ?_ | refine zm ?_ | refine zn ?_ | refine zo ?_ | refine zr ?_ | refine zu ?_ | refine zx ?_ | refine zy ?_ | refine zz ?_ | refine zza ?_ | refine zzb ?_ | refine zzc ?_ | refine zzd ?_ | refine zze ?_ | refine zzf ?_ | refine zzg ?_)
    refine cw_cond rfl (fun hi9 => ?_) (fun hi9 => ?_) <;> (try simp at hi9)
    · have hi9' : i < 9 := by omega
      repeat (first | refine za ?_ | refine zb ?_ | refine zc ?_ | refine zd ?_ | refine zg ?_ | refine zi ?_ | refine zj ?_ | refine zl ?_ | refine zm ?_ | refine zn ?_ | refine zo ?_ | refine zr ?_ | refine zu ?_ | refine zx ?_ | refine zy ?_ | refine zz ?_ | refine zza ?_ | refine zzb ?_ | refine zzc ?_ | refine zzd ?_ | refine zze ?_ | refine zzf ?_ | refine zzg ?_)
      refine x_append (by rfl) (by rfl) (by rfl) rfl rfl rfl (Own.nil 1 H3) hV3.sl (by rw [bvs_length, Nat.mul_one]) hV3.at_ (bvs_oneC _) (by omega) rfl trivial ?_
      intro v4 H4 hap4
      refine ⟨trivial, ?_⟩
      repeat (first | refine za ?_ | refine zb ?_ | refine zc ?_ | refine zd ?_ | refine zg ?_ | refine zi ?_ | refine zj ?_ | refine zl ?_ | refine zm ?_ | refine zn ?_ | refine zo ?_ | refine zr ?_ | refine zu ?_ | refine zx ?_ | refine zy ?_ | refine zz ?_ | refine zza ?_ | refine zzb ?_ | refine zzc ?_ | refine zzd ?_ | refine zze ?_ | refine zzf ?_ | refine zzg ?_)
      refine x_conv_int rfl rfl rfl trivial ?_
      have eb : IntKind.u8.wrap (20 * (i : Int)) = ((UInt8.ofNat (20 * i)).toNat : Int) := by rw [wrap_u8_mod]; simp
      rw [eb]
      refine x_buildSlice rfl rfl rfl rfl (by omega) (by simp [oneC, Value.oneCell']) rfl trivial ?_
      intro H5 hn5
      refine ⟨trivial, ?_⟩
      have hO4 : Own 1 H5 v4 w.length (bvs w) := by
        have := hap4.own.keep (S := Non) hn5.keep (fun _ h => h)
        simpa using this
      refine x_append (by rfl) (by rfl) (by rfl) rfl rfl rfl hO4 (isSl_some (Nat.le_refl _) (by omega)) (m := 1) (cx := [kb (UInt8.ofNat (20 * i))]) rfl (hn5.blk.cels 0 1 (by simp)) (by simp [oneC, Value.oneCell']) (by omega) rfl trivial ?_
      intro v6 H6 hap6
      refine ⟨trivial, ?_⟩
      obtain ⟨hk36, hK6, hf6⟩ := chain_cell (vw := vw) hap4 hn5 hap6
      have hK6 : Bs H6 v6 (ckey w i) := hK6
      have hD6 := hD.keepN hk36
      have hkl := ckey_len w i
      have hG6 : G (sb v6) = 0 := hD.mine.bu.gin.off hf6
      repeat (first | refine za ?_ | refine zb ?_ | refine zc ?_ | refine zd ?_ | refine zg ?_ | refine zi ?_ | refine zj ?_ | refine zl ?_ | refine zm ?_ | refine zn ?_ | refine zo ?_ | refine zr ?_ | refine zu ?_ | refine zx ?_ | refine zy ?_ | refine zz ?_ | refine zza ?_ | refine zzb ?_ | refine zzc ?_ | refine zzd ?_ | refine zze ?_ | refine zzf ?_ | refine zzg ?_)
      refine x_conv_int rfl rfl rfl trivial ?_
      rw [wrap_u64 (by omega) (by omega)]
      repeat (first | refine za ?_ | refine zb ?_ | refine zc ?_ | refine zd ?_ | refine zg ?_ | refine zi ?_ | refine zj ?_ | refine zl ?_ | refine zm ?_ | refine zn ?_ | refine zo ?_ | refine zr ?_ | refine zu ?_ | refine zx ?_ | refine zy ?_ | refine zz ?_ | refine zza ?_ | refine zzb ?_ | refine zzc ?_ | refine zzd ?_ | refine zze ?_ | refine zzf ?_ | refine zzg ?_)
      refine x_call rfl rfl rfl trivial (mine_put (i : Int) hD6.mine (by omega) hK6 (fun _ => hG6) (by omega) (by omega)) ?_
      have hthi : there (t.pairs []) (ckey w i) = false := by rw [hth i hi9']; simp
      rw [hthi, getM_there.1 hthi]
      rintro _ H7 ⟨rfl, hk7, G7, hE7, hM7⟩
      refine ⟨trivial, ?_⟩
      have hD7 := hD6.turnG hk7 hE7 hM7
      have hK7 := hK6.keep hk7 (fun _ e => e hG6)
      repeat (first | refine za ?_ | refine zb ?_ | refine zc ?_ | refine zd ?_ | refine zg ?_ | refine zi ?_ | refine zj ?_ | refine zl ?_ | refine zm ?_ | refine zn ?_ | refine zo ?_ | refine zr ?_ | refine zu ?_ | refine zx ?_ | refine zy ?_ | refine zz ?_ | refine zza ?_ | refine zzb ?_ | refine zzc ?_ | refine zzd ?_ | refine zze ?_ | refine zzf ?_ | refine zzg ?_)
      refine x_conv_int rfl rfl rfl trivial ?_
      rw [wrap_u64 (by omega) (by omega)]
      repeat (first | refine za ?_ | refine zb ?_ | refine zc ?_ | refine zd ?_ | refine zg ?_ | refine zi ?_ | refine zj ?_ | refine zl ?_ | refine zm ?_ | refine zn ?_ | refine zo ?_ | refine zr ?_ | refine zu ?_ | refine zx ?_ | refine zy ?_ | refine zz ?_ | refine zza ?_ | refine zzb ?_ | refine zzc ?_ | refine zzd ?_ | refine zze ?_ | refine zzf ?_ | refine zzg ?_)
      refine x_call rfl rfl rfl trivial (ref_PutW (i : Int) hD7.ref hK7 (by omega) (by omega)) ?_
      rintro _ H8 ⟨rfl, hk8, W8, hE8, hM8⟩
      refine ⟨trivial, ?_⟩
      have hpp := BT.put_pairs (p := (ckey w i, (i : Int))) hW.wf0 (begins_nil' _) (show (ckey w i).length ≤ 65535 by omega)
      rw [← hpp] at hM8
      have hD8 := hD7.turnW hk8 hE8 hM8
      have hcn8 := BT.put_cnt (p := (ckey w i, (i : Int))) hW.wf0 (begins_nil' _) (show (ckey w i).length ≤ 65535 by omega)
      rw [hthi] at hcn8
      simp only [Bool.false_eq_true, if_false] at hcn8
      have hnd8 := BT.put_isNode (p := (ckey w i, (i : Int))) hW (begins_nil' _) (show (ckey w i).length ≤ 65535 by omega)
      have hsz8 := (BT.put_size t (w := []) (p := (ckey w i, (i : Int))) hW (begins_nil' _) (show (ckey w i).length ≤ 65535 by omega)).1
      simp only [List.length_nil] at hsz8
      have hwf8 := hD8.mine.bu.wf
      have hbg8 : Beg w ((t.put [] (ckey w i, (i : Int))).pairs []) := by rw [hpp]; exact hbg.put i i
      have hth8 : ∀ j, j < 9 → there ((t.put [] (ckey w i, (i : Int))).pairs []) (ckey w j) = decide (j < i + 1) := fun j hj => by
        rw [hpp, there_putM (BT.pairs_rise hW.wf0), hth j hj]
        by_cases e : j = i
        · subst e; simp
        · rw [decide_eq_false (ckey_ne hj hi9' e), Bool.false_or]
          exact decide_eq_decide.2 (by omega)
      have hch8 : i + 1 = 9 → (t.put [] (ckey w i, (i : Int))).IsChain w := fun e9 => by
        have hp9 : ((putM (t.pairs []) (ckey w i) i)).length = 9 := by rw [putM_len, hthi]; simp; omega
        cases t with
        | nil => simp [BT.count] at hct; omega
        | node own kids => have hnd : true = decide (8 < i) := hnd; have := of_decide_eq_true hnd.symm; omega
        | shelf ps =>
          have hps : BT.Ok [] ps := hW.1
          have hthi : there ps (ckey w i) = false := hthi
          unfold BT.put
          rw [if_neg (by rw [hthi]; simp)]
          refine BT.built_chain w (by simp; omega) (hps.put (begins_nil' _) (show (ckey w i).length ≤ 65535 by omega)) hp9 fun p hp => ?_
          exact hbg.put i i p hp
      generalize t.put [] (ckey w i, (i : Int)) = t8 at *
      have hnd8' : t8.isNode = decide (8 < i + 1) := by rw [hnd8, hnd, hcn8, hct, decide_eq_false (by omega)]; rfl
      have hsz8' : i < 8 → t8.size = 1 := fun h8 => by
        rw [BT.small_size hwf8 (by rw [hnd8', decide_eq_false (by omega)]), hcn8]
        omega
      repeat (first | refine za ?_ | refine zb ?_ | refine zc ?_ | refine zd ?_ | refine zg ?_ | refine zi ?_ | refine zj ?_ | refine zl ?_ | refine zm ?_ | refine zn ?_ | refine zo ?_ | refine zr ?_ | refine zu ?_ | refine zx ?_ | refine zy ?_ | refine zz ?_ | refine zza ?_ | refine zzb ?_ | refine zzc ?_ | refine zzd ?_ | refine zze ?_ | refine zzf ?_ | refine zzg ?_)
      refine x_false 54 rfl (by simp) ?_
      repeat (first | refine za ?_ | refine zb ?_ | refine zc ?_ | refine zd ?_ | refine zg ?_ | refine zi ?_ | refine zj ?_ | refine zl ?_ | refine zm ?_ | refine zn ?_ | refine zo ?_ | refine zr ?_ | refine zu ?_ | refine zx ?_ | refine zy ?_ | refine zz ?_ | refine zza ?_ | refine zzb ?_ | refine zzc ?_ | refine zzd ?_ | refine zze ?_ | refine zzf ?_ | refine zzg ?_)
      refine x_split 57 rfl (fun h8 => ?_) (fun h8 => ?_) <;> (try simp at h8)
      · have hsz1 := hsz8' (by omega)
        repeat (first | refine za ?_ | refine zb ?_ | refine zc ?_ | refine zd ?_ | refine zg ?_ | refine zi ?_ | refine zj ?_ | refine zl ?_ | refine zm ?_ | refine zn ?_ | refine zo ?_ | refine zr ?_ | refine zu ?_ | refine zx ?_ | refine zy ?_ | refine zz ?_ | refine zza ?_ | refine zzb ?_ | refine zzc ?_ | refine zzd ?_ | refine zze ?_ | refine zzf ?_ | refine zzg ?_)
        refine x_call rfl rfl rfl trivial (tree_Live hD8.mine.bu) ?_
        rintro _ _ ⟨rfl, rfl⟩
        refine ⟨trivial, ?_⟩
        rw [hsz1]
        repeat (first | refine za ?_ | refine zb ?_ | refine zc ?_ | refine zd ?_ | refine zg ?_ | refine zi ?_ | refine zj ?_ | refine zl ?_ | refine zm ?_ | refine zn ?_ | refine zo ?_ | refine zr ?_ | refine zu ?_ | refine zx ?_ | refine zy ?_ | refine zz ?_ | refine zza ?_ | refine zzb ?_ | refine zzc ?_ | refine zzd ?_ | refine zze ?_ | refine zzf ?_ | refine zzg ?_)
        exact nw_round (i + 1) (by repeat (first | exact True.intro | refine ⟨rfl, ?_⟩)) ⟨by omega, G7, W8, t8, hD8, by omega, by omega, hnd8', hbg8, hth8, hch8⟩ (by omega)
      · repeat (first | refine za ?_ | refine zb ?_ | refine zc ?_ | refine zd ?_ | refine zg ?_ | refine zi ?_ | refine zj ?_ | refine zl ?_ | refine zm ?_ | refine zn ?_ | refine zo ?_ | refine zr ?_ | refine zu ?_ | refine zx ?_ | refine zy ?_ | refine zz ?_ | refine zza ?_ | refine zzb ?_ | refine zzc ?_ | refine zzd ?_ | refine zze ?_ | refine zzf ?_ | refine zzg ?_)
        exact nw_round (i + 1) (by repeat (first | exact True.intro | refine ⟨rfl, ?_⟩)) ⟨by omega, G7, W8, t8, hD8, by omega, by omega, hnd8', hbg8, hth8, hch8⟩ (by omega)
    · have hi9' : i = 9 := by omega
      subst hi9'
      have hcs := BT.chain_size t (hch rfl)
      repeat (first | refine za ?_ | refine zb ?_ | refine zc ?_ | refine zd ?_ | refine zg ?_ | refine zi ?_ | refine zj ?_ | refine zl ?_ | refine zm ?_ | refine zn ?_ | refine zo ?_ | refine zr ?_ | refine zu ?_ | refine zx ?_ | refine zy ?_ | refine zz ?_ | refine zza ?_ | refine zzb ?_ | refine zzc ?_ | refine zzd ?_ | refine zze ?_ | refine zzf ?_ | refine zzg ?_)
      refine x_call rfl rfl rfl trivial (tree_Live hD.mine.bu) ?_
      rintro _ _ ⟨rfl, rfl⟩
      refine ⟨trivial, ?_⟩
      repeat (first | refine za ?_ | refine zb ?_ | refine zc ?_ | refine zd ?_ | refine zg ?_ | refine zi ?_ | refine zj ?_ | refine zl ?_ | refine zm ?_ | refine zn ?_ | refine zo ?_ | refine zr ?_ | refine zu ?_ | refine zx ?_ | refine zy ?_ | refine zz ?_ | refine zza ?_ | refine zzb ?_ | refine zzc ?_ | refine zzd ?_ | refine zze ?_ | refine zzf ?_ | refine zzg ?_)
      refine x_false 70 rfl (by simp; omega) ?_
      repeat (first | refine za ?_ | refine zb ?_ | refine zc ?_ | refine zd ?_ | refine zg ?_ | refine zi ?_ | refine zj ?_ | refine zl ?_ | refine zm ?_ | refine zn ?_ | refine zo ?_ | refine zr ?_ | refine zu ?_ | refine zx ?_ | refine zy ?_ | refine zz ?_ | refine zza ?_ | refine zzb ?_ | refine zzc ?_ | refine zzd ?_ | refine zze ?_ | refine zzf ?_ | refine zzg ?_)
      refine x_call rfl rfl rfl trivial (law_right hD.mine.bu (by omega) (by omega) hD.ref.mp) ?_
      rintro _ H4 ⟨hk4, rfl⟩
      refine ⟨trivial, ?_⟩
      obtain ⟨f, hf⟩ : ∃ f : Nat, low first 9 = f := ⟨(low first 9).toNat, by have := (low_bd first (m := 9) (by omega)).1; omega⟩
      have hf1 := (low_bd first (m := 9) (by omega)).2
      rw [hf] at hf1
      repeat (first | refine za ?_ | refine zb ?_ | refine zc ?_ | refine zd ?_ | refine zg ?_ | refine zi ?_ | refine zj ?_ | refine zl ?_ | refine zm ?_ | refine zn ?_ | refine zo ?_ | refine zr ?_ | refine zu ?_ | refine zx ?_ | refine zy ?_ | refine zz ?_ | refine zza ?_ | refine zzb ?_ | refine zzc ?_ | refine zzd ?_ | refine zze ?_ | refine zzf ?_ | refine zzg ?_)
      refine cw_loop (fun d : Nat => [(0, vw), (1, .int .i64 first), (5, ptr b 0), (6, ptr c 0), (12, .int .i64 d)]) (fun d H' => d ≤ 9 ∧ ∃ G W t, Duo H G W H' b 500 c t (t.pairs []) ∧ t.count = 9 - d ∧ (∀ j, j < 9 → there (t.pairs []) (ckey w j) = decide (d ≤ (j + 9 - f) % 9)) ∧ (4 < 9 - d → t.IsChain w)) (fun d => 9 - d) 0 (by repeat (first | exact True.intro | refine ⟨rfl, ?_⟩)) ⟨by omega, G, W, t, hD.keepN hk4, by omega, fun j hj => by rw [hth j hj, decide_eq_true hj, decide_eq_true (Nat.zero_le _)], fun _ => hch rfl⟩ ?_
      clear hD hsz hct hnd hbg hth hch hlen hW hcs hV3 hk4
      rintro d H5 ⟨hd, G, W, t, hD, hct, hth, hch⟩
      have hV5 := hV.keepN hD.mine.keep
      have hlen := hD.mine.bu.len
      have hW := hD.mine.bu.wf
      repeat (first | refine za ?_ | refine zb ?_ | refine zc ?_ | refine zd ?_ | refine zg ?_ | refine zi ?_ | refine zj ?_ | refine zl ?_ | refine zm ?_ | refine zn ?_ | refine zo ?_ | refine zr ?_ | refine zu ?_ | refine zx ?_ | refine zy ?_ | refine zz ?_ | refine zza ?_ | refine zzb ?_ | refine zzc ?_ | refine zzd ?_ | refine zze ?_ | refine zzf ?_ | refine zzg ?_)
      refine cw_cond rfl (fun hd9 => ?_) (fun hd9 => ?_) <;> (try simp at hd9)
      · have hd9' : d < 9 := by omega
        obtain ⟨i, hi⟩ : ∃ i, i = (d + f) % 9 := ⟨_, rfl⟩
        have hi9 : i < 9 := by omega
        repeat (first | refine za ?_ | refine zb ?_ | refine zc ?_ | refine zd ?_ | refine zg ?_ | refine zi ?_ | refine zj ?_ | refine zl ?_ | refine zm ?_ | refine zn ?_ | refine zo ?_ | refine zr ?_ | refine zu ?_ | refine zx ?_ | refine zy ?_ | refine zz ?_ | refine zza ?_ | refine zzb ?_ | refine zzc ?_ | refine zzd ?_ | refine zze ?_ | refine zzf ?_ | refine zzg ?_)
        refine x_append (by rfl) (by rfl) (by rfl) rfl rfl rfl (Own.nil 1 H5) hV5.sl (by rw [bvs_length, Nat.mul_one]) hV5.at_ (bvs_oneC _) (by omega) rfl trivial ?_
        intro v6 H6 hap6
        refine ⟨trivial, ?_⟩
        repeat (first | refine za ?_ | refine zb ?_ | refine zc ?_ | refine zd ?_ | refine zg ?_ | refine zi ?_ | refine zj ?_ | refine zl ?_ | refine zm ?_ | refine zn ?_ | refine zo ?_ | refine zr ?_ | refine zu ?_ | refine zx ?_ | refine zy ?_ | refine zz ?_ | refine zza ?_ | refine zzb ?_ | refine zzc ?_ | refine zzd ?_ | refine zze ?_ | refine zzf ?_ | refine zzg ?_)
        refine x_call rfl rfl rfl trivial (law_LowF first 9 (by omega) H6) ?_
        rintro _ _ ⟨rfl, rfl⟩
        refine ⟨trivial, ?_⟩
        rw [hf]
        repeat (first | refine za ?_ | refine zb ?_ | refine zc ?_ | refine zd ?_ | refine zg ?_ | refine zi ?_ | refine zj ?_ | refine zl ?_ | refine zm ?_ | refine zn ?_ | refine zo ?_ | refine zr ?_ | refine zu ?_ | refine zx ?_ | refine zy ?_ | refine zz ?_ | refine zza ?_ | refine zzb ?_ | refine zzc ?_ | refine zzd ?_ | refine zze ?_ | refine zzf ?_ | refine zzg ?_)
        refine x_rem rfl rfl rfl (by decide) rfl trivial ?_
        have er : Int.tmod ((d : Int) + (f : Int)) 9 = (i : Int) := by rw [hi]; rfl
        rw [er]
        repeat (first | refine za ?_ | refine zb ?_ | refine zc ?_ | refine zd ?_ | refine zg ?_ | refine zi ?_ | refine zj ?_ | refine zl ?_ | refine zm ?_ | refine zn ?_ | refine zo ?_ | refine zr ?_ | refine zu ?_ | refine zx ?_ | refine zy ?_ | refine zz ?_ | refine zza ?_ | refine zzb ?_ | refine zzc ?_ | refine zzd ?_ | refine zze ?_ | refine zzf ?_ | refine zzg ?_)
        refine x_conv_int rfl rfl rfl trivial ?_
        have eb : IntKind.u8.wrap (20 * (i : Int)) = ((UInt8.ofNat (20 * i)).toNat : Int) := by rw [wrap_u8_mod]; simp
        rw [eb]
        refine x_buildSlice rfl rfl rfl rfl (by omega) (by simp [oneC, Value.oneCell']) rfl trivial ?_
        intro H7 hn7
        refine ⟨trivial, ?_⟩
        have hO6 : Own 1 H7 v6 w.length (bvs w) := by
          have := hap6.own.keep (S := Non) hn7.keep (fun _ h => h)
          simpa using this
        refine x_append (by rfl) (by rfl) (by rfl) rfl rfl rfl hO6 (isSl_some (Nat.le_refl _) (by omega)) (m := 1) (cx := [kb (UInt8.ofNat (20 * i))]) rfl (hn7.blk.cels 0 1 (by simp)) (by simp [oneC, Value.oneCell']) (by omega) rfl trivial ?_
        intro v8 H8 hap8
        refine ⟨trivial, ?_⟩
        obtain ⟨hk58, hK8, hf8⟩ := chain_cell (vw := vw) hap6 hn7 hap8
        have hK8 : Bs H8 v8 (ckey w i) := hK8
        have hD8 := hD.keepN hk58
        have hkl := ckey_len w i
        have hG8 : G (sb v8) = 0 := hD.mine.bu.gin.off hf8
        have hthi : there (t.pairs []) (ckey w i) = true := by rw [hth i hi9]; exact decide_eq_true (by omega)
        repeat (first | refine za ?_ | refine zb ?_ | refine zc ?_ | refine zd ?_ | refine zg ?_ | refine zi ?_ | refine zj ?_ | refine zl ?_ | refine zm ?_ | refine zn ?_ | refine zo ?_ | refine zr ?_ | refine zu ?_ | refine zx ?_ | refine zy ?_ | refine zz ?_ | refine zza ?_ | refine zzb ?_ | refine zzc ?_ | refine zzd ?_ | refine zze ?_ | refine zzf ?_ | refine zzg ?_)
        refine x_call rfl rfl rfl trivial (mine_drop hD8.mine (by omega) hK8 (fun _ => hG8)) ?_
        rw [hthi]
        rintro _ H9 ⟨rfl, hk9, G9, hE9, hM9⟩
        refine ⟨trivial, ?_⟩
        have hD9 := hD8.turnG hk9 hE9 hM9
        have hK9 := hK8.keep hk9 (fun _ e => e hG8)
        repeat (first | refine za ?_ | refine zb ?_ | refine zc ?_ | refine zd ?_ | refine zg ?_ | refine zi ?_ | refine zj ?_ | refine zl ?_ | refine zm ?_ | refine zn ?_ | refine zo ?_ | refine zr ?_ | refine zu ?_ | refine zx ?_ | refine zy ?_ | refine zz ?_ | refine zza ?_ | refine zzb ?_ | refine zzc ?_ | refine zzd ?_ | refine zze ?_ | refine zzf ?_ | refine zzg ?_)
        refine x_call rfl rfl rfl trivial (ref_DropW hD9.ref hK9 (by omega)) ?_
        rintro _ Ha ⟨rfl, hka, Wa, hEa, hMa⟩
        refine ⟨trivial, ?_⟩
        rw [← dropT_pairs hW.wf0] at hMa
        have hDa := hD9.turnW hka hEa hMa
        unfold dropT at hDa
        rw [if_pos hthi] at hDa
        have hcna := BT.drop_cnt (k := ckey w i) hW.wf0 (begins_nil' _) hthi
        have hnda := BT.drop_isNode (t := t) (w := []) (k := ckey w i)
        have htha : ∀ j, j < 9 → there ((t.drop [] (ckey w i)).pairs []) (ckey w j) = decide (d + 1 ≤ (j + 9 - f) % 9) := fun j hj => by
          rw [BT.drop_pairs hW.wf0 (begins_nil' _), there_dropM (BT.pairs_rise hW.wf0), hth j hj]
          by_cases e : j = i
          · rw [e, decide_eq_true rfl, Bool.not_true, Bool.false_and, decide_eq_false (by omega)]
          · rw [decide_eq_false (ckey_ne hj hi9 e), Bool.not_false, Bool.true_and]
            exact decide_eq_decide.2 (by omega)
        have hcha : 4 < 8 - d → (t.drop [] (ckey w i)).IsChain w := fun h => BT.chain_drop t (v := []) (b := UInt8.ofNat (20 * i)) (hch (by omega)) rfl (by omega)
        have hwfa := hDa.mine.bu.wf
        generalize t.drop [] (ckey w i) = ta at *
        have hsza : ta.size = if 8 - d ≤ 4 then min (8 - d) 1 else w.length + 1 + (8 - d) := by
          split
          · rw [BT.small_size hwfa (by rw [hnda, decide_eq_false (by omega)]; simp)]
            congr 1
            omega
          · rw [BT.chain_size ta (hcha (by omega))]
            omega
        obtain ⟨lf, hlf⟩ : ∃ lf, lf = 8 - d := ⟨_, rfl⟩
        have hel : (8 : Int) - (d : Int) = (lf : Int) := by omega
        rw [← hlf] at hsza
        repeat (first | refine za ?_ | refine zb ?_ | refine zc ?_ | refine zd ?_ | refine zg ?_ | refine zi ?_ | refine zj ?_ | refine zl ?_ | refine zm ?_ | refine zn ?_ | refine zo ?_ | refine zr ?_ | refine zu ?_ | refine zx ?_ | refine zy ?_ | refine zz ?_ | refine zza ?_ | refine zzb ?_ | refine zzc ?_ | refine zzd ?_ | refine zze ?_ | refine zzf ?_ | refine zzg ?_)
        rw [hel]
        repeat (first | refine za ?_ | refine zb ?_ | refine zc ?_ | refine zd ?_ | refine zg ?_ | refine zi ?_ | refine zj ?_ | refine zl ?_ | refine zm ?_ | refine zn ?_ | refine zo ?_ | refine zr ?_ | refine zu ?_ | refine zx ?_ | refine zy ?_ | refine zz ?_ | refine zza ?_ | refine zzb ?_ | refine zzc ?_ | refine zzd ?_ | refine zze ?_ | refine zzf ?_ | refine zzg ?_)
        refine cw_cut (fun x : Int => [(0, vw), (1, .int .i64 first), (5, ptr b 0), (6, ptr c 0), (12, .int .i64 d), (15, .bool true), (17, .int .i64 x)]) (fun x H' => Ha = H' ∧ x = ta.size) ?_ ?_
        · refine cw_cond rfl (fun hlf4 => ?_) (fun hlf4 => ?_) <;> (try simp at hlf4)
          · rw [if_pos (by omega)] at hsza
            repeat (first | refine za ?_ | refine zb ?_ | refine zc ?_ | refine zd ?_ | refine zg ?_ | refine zi ?_ | refine zj ?_ | refine zl ?_ | refine zm ?_ | refine zn ?_ | refine zo ?_ | refine zr ?_ | refine zu ?_ | refine zx ?_ | refine zy ?_ | refine zz ?_ | refine zza ?_ | refine zzb ?_ | refine zzc ?_ | refine zzd ?_ | refine zze ?_ | refine zzf ?_ | refine zzg ?_)
            refine x_min rfl rfl rfl rfl trivial ?_
            repeat (first | refine za ?_ | refine zb ?_ | refine zc ?_ | refine zd ?_ | refine zg ?_ | refine zi ?_ | refine zj ?_ | refine zl ?_ | refine zm ?_ | refine zn ?_ | refine zo ?_ | refine zr ?_ | refine zu ?_ | refine zx ?_ | refine zy ?_ | refine zz ?_ | refine zza ?_ | refine zzb ?_ | refine zzc ?_ | refine zzd ?_ | refine zze ?_ | refine zzf ?_ | refine zzg ?_)
            exact nw_meet _ (by repeat (first | exact True.intro | refine ⟨rfl, ?_⟩)) ⟨rfl, by omega⟩
          · rw [if_neg (by omega)] at hsza
            repeat (first | refine za ?_ | refine zb ?_ | refine zc ?_ | refine zd ?_ | refine zg ?_ | refine zi ?_ | refine zj ?_ | refine zl ?_ | refine zm ?_ | refine zn ?_ | refine zo ?_ | refine zr ?_ | refine zu ?_ | refine zx ?_ | refine zy ?_ | refine zz ?_ | refine zza ?_ | refine zzb ?_ | refine zzc ?_ | refine zzd ?_ | refine zze ?_ | refine zzf ?_ | refine zzg ?_)
            exact nw_meet _ (by repeat (first | exact True.intro | refine ⟨rfl, ?_⟩)) ⟨rfl, by omega⟩
        rintro x _ ⟨rfl, rfl⟩
        repeat (first | refine za ?_ | refine zb ?_ | refine zc ?_ | refine zd ?_ | refine zg ?_ | refine zi ?_ | refine zj ?_ | refine zl ?_ | refine zm ?_ | refine zn ?_ | refine zo ?_ | refine zr ?_ | refine zu ?_ | refine zx ?_ | refine zy ?_ | refine zz ?_ | refine zza ?_ | refine zzb ?_ | refine zzc ?_ | refine zzd ?_ | refine zze ?_ | refine zzf ?_ | refine zzg ?_)
        refine x_call rfl rfl rfl trivial (tree_Live hDa.mine.bu) ?_
        rintro _ _ ⟨rfl, rfl⟩
        refine ⟨trivial, ?_⟩
        repeat (first | refine za ?_ | refine zb ?_ | refine zc ?_ | refine zd ?_ | refine zg ?_ | refine zi ?_ | refine zj ?_ | refine zl ?_ | refine zm ?_ | refine zn ?_ | refine zo ?_ | refine zr ?_ | refine zu ?_ | refine zx ?_ | refine zy ?_ | refine zz ?_ | refine zza ?_ | refine zzb ?_ | refine zzc ?_ | refine zzd ?_ | refine zze ?_ | refine zzf ?_ | refine zzg ?_)
        refine x_false 119 rfl (by simp) ?_
        repeat (first | refine za ?_ | refine zb ?_ | refine zc ?_ | refine zd ?_ | refine zg ?_ | refine zi ?_ | refine zj ?_ | refine zl ?_ | refine zm ?_ | refine zn ?_ | refine zo ?_ | refine zr ?_ | refine zu ?_ | refine zx ?_ | refine zy ?_ | refine zz ?_ | refine zza ?_ | refine zzb ?_ | refine zzc ?_ | refine zzd ?_ | refine zze ?_ | refine zzf ?_ | refine zzg ?_)
        refine x_call rfl rfl rfl trivial (law_right hDa.mine.bu (by omega) (by omega) hDa.ref.mp) ?_
        rintro _ Hb ⟨hkb, rfl⟩
        refine ⟨trivial, ?_⟩
        repeat (first | refine za ?_ | refine zb ?_ | refine zc ?_ | refine zd ?_ | refine zg ?_ | refine zi ?_ | refine zj ?_ | refine zl ?_ | refine zm ?_ | refine zn ?_ | refine zo ?_ | refine zr ?_ | refine zu ?_ | refine zx ?_ | refine zy ?_ | refine zz ?_ | refine zza ?_ | refine zzb ?_ | refine zzc ?_ | refine zzd ?_ | refine zze ?_ | refine zzf ?_ | refine zzg ?_)
        exact nw_round (d + 1) (by repeat (first | exact True.intro | refine ⟨rfl, ?_⟩)) ⟨by omega, G9, Wa, ta, hDa.keepN hkb, by omega, htha, fun h => hcha (by omega)⟩ (by omega)
      · repeat (first | refine za ?_ | refine zb ?_ | refine zc ?_ | refine zd ?_ | refine zg ?_ | refine zi ?_ | refine zj ?_ | refine zl ?_ | refine zm ?_ | refine zn ?_ | refine zo ?_ | refine zr ?_ | refine zu ?_ | refine zx ?_ | refine zy ?_ | refine zz ?_ | refine zza ?_ | refine zzb ?_ | refine zzc ?_ | refine zzd ?_ | refine zze ?_ | refine zzf ?_ | refine zzg ?_)
        refine x_call rfl rfl rfl trivial (awake15 _) ?_
        rintro _ Hz ⟨rfl, hkz⟩
        refine ⟨trivial, ?_⟩
        repeat (first | refine za ?_ | refine zb ?_ | refine zc ?_ | refine zd ?_ | refine zg ?_ | refine zi ?_ | refine zj ?_ | refine zl ?_ | refine zm ?_ | refine zn ?_ | refine zo ?_ | refine zr ?_ | refine zu ?_ | refine zx ?_ | refine zy ?_ | refine zz ?_ | refine zza ?_ | refine zzb ?_ | refine zzc ?_ | refine zzd ?_ | refine zze ?_ | refine zzf ?_ | refine zzg ?_)
        exact cw_ret1 rfl rfl ⟨rfl, (hD.mine.keep).non_trans hkz⟩
end Go.Proofs.Ytaloblomncjgkaa.X
