/- Chapter 11's document: the cells of a ternary tree of pairs. -/
import Derived.Test.YtkdmcbacofafpaaDoorO11
namespace Go.Proofs.YtkdmcbacofafpaaDoor.X
open Go Go.Proofs
set_option linter.unusedVariables false
set_option linter.unusedSimpArgs false
set_option maxRecDepth 10000
set_option maxHeartbeats 4000000

structure CutT (w : Bytes) (l : List Pr) (b : UInt8) (i m : Nat) : Prop where
  mid : ∃ x, l[l.length / 2]? = some x ∧ byK w.length x = b
  lt : i < l.length
  low : ∀ (j : Nat) (p : Pr), j < i → l[j]? = some p → byK w.length p < b
  at_ : ∀ p, l[i]? = some p → byK w.length p = b
  pos : 0 < m
  le : i + m ≤ l.length
  eq : ∀ (j : Nat) (p : Pr), i ≤ j → j < i + m → l[j]? = some p → byK w.length p = b
  fin : ∀ p, l[i + m]? = some p → byK w.length p ≠ b
  tree : ∀ f, ternT (f + 1) l w.length = .node b (ownV (w.length + 1) ((l.drop i).take m)) (ternT f (l.take i) w.length) (ternT f (offOwn (w.length + 1) ((l.drop i).take m)) (w.length + 1)) (ternT f ((l.drop i).drop m) w.length)
  way : Way (w ++ [b]) ((l.drop i).take m)
  wtA : wt w.length (l.take i) < wt w.length l
  wtR : wt w.length ((l.drop i).drop m) < wt w.length l
  wtX : wt (w.length + 1) (offOwn (w.length + 1) ((l.drop i).take m)) < wt w.length l
theorem cutT {w : Bytes} {l : List Pr} (hW : Way w l) (hL : Long w.length l) (hne : l ≠ []) : ∃ b i m, CutT w l b i m := by
  have hpos : 0 < l.length := List.length_pos_iff.2 hne
  obtain ⟨x, hx⟩ : ∃ x, l[l.length / 2]? = some x := ⟨_, List.getElem?_eq_getElem (by omega)⟩
  have eb : midB w.length l = byK w.length x := by unfold midB; rw [List.getD_eq_getElem?_getD, hx]; rfl
  have e0 : ∀ f, ternT (f + 1) l w.length = .node (midB w.length l) (ownV (w.length + 1) ((l.drop (lowN w.length (midB w.length l) l)).take (eqN w.length (midB w.length l) (l.drop (lowN w.length (midB w.length l) l)))))
      (ternT f (l.take (lowN w.length (midB w.length l) l)) w.length)
      (ternT f (offOwn (w.length + 1) ((l.drop (lowN w.length (midB w.length l) l)).take (eqN w.length (midB w.length l) (l.drop (lowN w.length (midB w.length l) l))))) (w.length + 1))
      (ternT f ((l.drop (lowN w.length (midB w.length l) l)).drop (eqN w.length (midB w.length l) (l.drop (lowN w.length (midB w.length l) l)))) w.length) := fun f => by
    conv => lhs; unfold ternT
    rw [if_neg hne]
  rw [eb] at e0
  generalize hbb : byK w.length x = b at e0
  generalize hi' : lowN w.length b l = i at e0
  have hil : i ≤ l.length := by rw [← hi']; exact lowN_le _ _ _
  have hij : i ≤ l.length / 2 := by
    rcases Nat.lt_or_ge (l.length / 2) i with h | h
    · exfalso
      have h1 : x ∈ l.take (lowN w.length b l) := List.mem_of_getElem? (i := l.length / 2) (by rw [hi', List.getElem?_take, if_pos h]; exact hx)
      have := lowN_mem h1
      rw [hbb] at this
      exact UInt8.lt_irrefl _ this
    · exact h
  obtain ⟨y, hy⟩ : ∃ y, l[i]? = some y := ⟨_, List.getElem?_eq_getElem (by omega)⟩
  have hyb : byK w.length y = b := by
    have h1 : ¬ byK w.length y < b := lowN_end (by rw [hi']; exact hy)
    have h2 := hW.mono hL hij hy hx
    rw [hbb] at h2
    rcases UInt8.lt_or_eq_of_le h2 with h | h
    · exact absurd h h1
    · exact h
  have hdr : l.drop i = y :: l.drop (i + 1) := by
    rw [List.drop_eq_getElem_cons (by omega)]
    have := List.getElem?_eq_getElem (l := l) (i := i) (by omega)
    rw [hy] at this
    injection this with this
    rw [← this]
  generalize hm : eqN w.length b (l.drop i) = m at e0
  have hm0 : 0 < m := by rw [← hm, hdr, ← hyb]; exact eqN_pos
  have hml : m ≤ (l.drop i).length := by rw [← hm]; exact eqN_le _ _ _
  rw [List.length_drop] at hml
  have sD := List.drop_sublist i l
  have sM := (List.take_sublist m (l.drop i)).trans sD
  have hinM : ∀ q ∈ (l.drop i).take m, byK w.length q = b := fun q hq => eqN_mem (by rw [hm]; exact hq)
  have hsplit : l = l.take i ++ ((l.drop i).take m ++ (l.drop i).drop m) := by rw [List.take_append_drop, List.take_append_drop]
  have hMne : (l.drop i).take m ≠ [] := fun e => by
    have := congrArg List.length e
    rw [List.length_take, List.length_drop] at this
    simp at this
    omega
  have hWM : Way (w ++ [b]) ((l.drop i).take m) := (hW.sub sM).down rfl (hL.sub sM) hinM
  have hlen1 : (w ++ [b]).length = w.length + 1 := by simp
  obtain ⟨o1, o2, o3⟩ := own_off hWM
  rw [hlen1] at o1 o2 o3
  have hsum : wt w.length l = wt w.length (l.take i) + (wt w.length ((l.drop i).take m) + wt w.length ((l.drop i).drop m)) := by
    conv => lhs; rw [hsplit]
    rw [wt_app, wt_app]
  have hMw := wt_len (hL.sub sM)
  have hMp : 0 < ((l.drop i).take m).length := List.length_pos_iff.2 hMne
  refine ⟨b, i, m, ⟨x, hx, hbb⟩, by omega, fun j p hj hp => ?_, fun p hp => ?_, hm0, by omega, fun j p h1 h2 hp => ?_, fun p hp => ?_, e0, hWM, by omega, by omega, ?_⟩
  · exact lowN_mem (n := w.length) (b := b) (l := l) (List.mem_of_getElem? (i := j) (by rw [hi', List.getElem?_take, if_pos hj]; exact hp))
  · rw [hy] at hp; injection hp with hp; rw [← hp]; exact hyb
  · exact hinM p (List.mem_of_getElem? (i := j - i) (by rw [List.getElem?_take, if_pos (by omega), List.getElem?_drop, show i + (j - i) = j by omega]; exact hp))
  · exact eqN_end (n := w.length) (b := b) (l := l.drop i) (by rw [hm, List.getElem?_drop]; exact hp)
  · have h1 := wt_succ o2
    have h2 : wt w.length (offOwn (w.length + 1) ((l.drop i).take m)) ≤ wt w.length ((l.drop i).take m) := by
      have := congrArg (wt w.length) o1
      rw [wt_app] at this
      omega
    rcases Nat.eq_zero_or_pos (offOwn (w.length + 1) ((l.drop i).take m)).length with h | h
    · rw [List.length_eq_zero_iff.1 h]; show 0 < _; omega
    · omega
theorem byK_get {n : Nat} {p : Pr} (h : n < p.1.length) : p.1[n]? = some (byK n p) := by
  unfold byK
  rw [List.getD_eq_getElem?_getD, List.getElem?_eq_getElem h]
  rfl
theorem TT.cells_ne {t : TT} {n : Nat} : 0 < (t.cells n).length ↔ t.isT = 1 := by
  cases t with
  | nil => simp [TT.cells, TT.isT]
  | node => simp [TT.cells, TT.isT]
theorem u8_lt {a b : UInt8} : decide ((a.toNat : Int) < (b.toNat : Int)) = decide (a < b) := by
  rw [decide_eq_decide, UInt8.lt_iff_toNat_lt]
  omega
theorem u8_eq {a b : UInt8} : ((a.toNat : Int) == (b.toNat : Int)) = decide (a = b) := by
  by_cases h : a = b
  · subst h; simp
  · rw [decide_eq_false h]
    have : a.toNat ≠ b.toNat := fun e => h (UInt8.toNat_inj.1 e)
    exact beq_eq_false_iff_ne.2 (fun e => this (by omega))
theorem ternT_few {f : Nat} {w : Bytes} {l : List Pr} (h : Few l) (hW : Way w l) (hL : Long w.length l) : (ternT f l w.length).size ≤ 800 := by
  have h1 := ternT_size f hW hL
  have h2 := (wt_le (n := w.length) h.key).1
  have h3 := h.len
  omega

theorem ref11_tern {B0 : Nat} : ∀ (f : Nat) {w : Bytes} {l : List Pr} {vp : Value} {H : Heap}, Few l → Way w l → Long w.length l → wt w.length l ≤ f → w.length ≤ 1000 → PIn B0 H vp l → B0 ≤ H.size →
    Ret Tryd.prog 38 [vp, .int .i64 w.length] H (OfR B0 ((ternT f l w.length).cells w.length) H) := by
  intro f
  induction f with
  | zero =>
    intro w l vp H hF hW hL hf hw hP hB
    have := wt_len hL
    have hl0 : l = [] := List.length_eq_zero_iff.1 (by omega)
    subst hl0
    have sP : IsSl vp 0 := hP.row.sl
    refine ret_of Tryd.func38 rfl rfl rfl rfl ?_
    intro w0
    refine zrun ?_ ?_
    exact cw_ret1 rfl rfl ⟨Keep.refl _ _, CO.nil _ _ _⟩
  | succ f ih =>
    intro w l vp H hF hW hL hf hw hP hB
    have sP := hP.row.sl
    have cP := sP.cap
    have h40 := hF.len
    refine ret_of Tryd.func38 rfl rfl rfl rfl ?_
    intro w0
    refine zrun ?_ ?_
    refine cw_cond rfl (fun h0 => ?_) (fun h0 => ?_) <;> (try simp at h0)
    · have hl0 : l = [] := by first | exact h0 | exact List.length_eq_zero_iff.1 (by omega)
      subst hl0
      refine zrun ?_ ?_
      exact cw_ret1 rfl rfl ⟨Keep.refl _ _, CO.nil _ _ _⟩
    · have hne : l ≠ [] := fun e => by rw [e] at h0; simp at h0
      have hpos := List.length_pos_iff.2 hne
      obtain ⟨b, i, m, hc⟩ := cutT hW hL hne
      obtain ⟨x, hx, hxb⟩ := hc.mid
      obtain ⟨kx, z0, _, z2⟩ := hP.at_ hx
      have sKx := z2.1.sl
      have hxl := hL x (List.mem_of_getElem? hx)
      have hxg := byK_get hxl
      rw [hxb] at hxg
      have hil := hc.lt
      have hm0 := hc.pos
      have hmle := hc.le
      have hquo : (l.length : Int).tdiv 2 = ((l.length / 2 : Nat) : Int) := by
        rw [Int.tdiv_eq_ediv_of_nonneg (by omega)]
        omega
      refine zrun ?_ ?_
      refine x_quo rfl rfl rfl (by omega) rfl trivial ?_
      rw [hquo, wrap_i64 (by omega) (by omega)]
      refine zrun ?_ ?_
      refine x_load rfl rfl (hpmt (z0)) rfl trivial ?_
      refine zrun ?_ ?_
      refine x_load rfl rfl (hpmt (z2.1.get w.length b hxg)) rfl trivial ?_
      refine zrun ?_ ?_
      refine cw_loop (fun j : Nat => [(0, vp), (1, .int .i64 w.length), (5, bv b), (6, .int .i64 j), (7, .int .i64 0)]) (fun j H' => H = H' ∧ j ≤ i) (fun j => i - j) 0 (by repeat (first | exact True.intro | refine ⟨rfl, ?_⟩)) ⟨rfl, Nat.zero_le _⟩ ?_
      rintro j _ ⟨rfl, hj⟩
      refine zrun ?_ ?_
      refine x_split 30 rfl (fun hjl => ?_) (fun hjl => ?_) <;> (try simp at hjl)
      · obtain ⟨p, hp⟩ : ∃ p, l[j]? = some p := ⟨_, List.getElem?_eq_getElem (by omega)⟩
        obtain ⟨kj, x0, _, x2⟩ := hP.at_ hp
        have sKj := x2.1.sl
        have hpl := hL p (List.mem_of_getElem? hp)
        have hpg := byK_get hpl
        refine zrun ?_ ?_
        refine x_load rfl rfl (hpmt (x0)) rfl trivial ?_
        refine zrun ?_ ?_
        refine x_load rfl rfl (hpmt (x2.1.get w.length _ hpg)) rfl trivial ?_
        refine zrun ?_ ?_
        have hlow : j < i → (byK w.length p).toNat < b.toNat := fun h => UInt8.lt_iff_toNat_lt.1 (hc.low j p h hp)
        have hat0 : j = i → (byK w.length p).toNat = b.toNat := fun h => by
          subst h
          rw [hc.at_ p hp]
        refine cw_cond rfl (fun hbl => ?_) (fun hbl => ?_) <;> (try simp at hbl)
        · have hji : j < i := by
            rcases Nat.lt_or_ge j i with h | h
            · exact h
            · have := hat0 (by omega); omega
          refine zrun ?_ ?_
          exact nw_round (j + 1) (by repeat (first | exact True.intro | refine ⟨rfl, ?_⟩)) ⟨rfl, hji⟩ (by omega)
        · have hji' : j = i := by
            rcases Nat.lt_or_ge j i with h | h
            · have := hlow h; omega
            · omega
          subst hji'
          clear hlow hat0 hbl
          refine zrun ?_ ?_
          refine cw_loop (fun k : Nat => [(0, vp), (1, .int .i64 w.length), (5, bv b), (6, .int .i64 j), (7, .int .i64 k)]) (fun k H' => H = H' ∧ j ≤ k ∧ k ≤ j + m) (fun k => j + m - k) j (by repeat (first | exact True.intro | refine ⟨rfl, ?_⟩)) ⟨rfl, Nat.le_refl _, by omega⟩ ?_
          rintro k _ ⟨rfl, hk1, hk2⟩
          refine zrunc ?_ ?_
          refine cw_cut (fun e : Bool => [(0, vp), (1, .int .i64 w.length), (5, bv b), (6, .int .i64 j), (7, .int .i64 k), (60, .bool e)]) (fun e H' => H = H' ∧ e = decide (k < j + m)) ?_ ?_
          · refine zrun ?_ ?_
            refine x_split 49 rfl (fun hkl => ?_) (fun hkl => ?_) <;> (try simp at hkl)
            · obtain ⟨r, hr⟩ : ∃ r, l[k]? = some r := ⟨_, List.getElem?_eq_getElem (by omega)⟩
              obtain ⟨kk, w0', _, w2⟩ := hP.at_ hr
              have sKk := w2.1.sl
              have hrl := hL r (List.mem_of_getElem? hr)
              have hrg := byK_get hrl
              refine zrun ?_ ?_
              refine x_load rfl rfl (hpmt (w0')) rfl trivial ?_
              refine zrun ?_ ?_
              refine x_load rfl rfl (hpmt (w2.1.get w.length _ hrg)) rfl trivial ?_
              refine zrun ?_ ?_
              refine nw_meet _ (by repeat (first | exact True.intro | refine ⟨rfl, ?_⟩)) ⟨rfl, ?_⟩
              rw [u8_eq]
              by_cases hkm : k < j + m
              · rw [decide_eq_true hkm, decide_eq_true (hc.eq k r hk1 hkm hr)]
              · have hkm' : k = j + m := by omega
                rw [decide_eq_false hkm]
                exact decide_eq_false (hc.fin r (by rw [← hkm']; exact hr))
            · refine zrun ?_ ?_
              exact nw_meet false (by repeat (first | exact True.intro | refine ⟨rfl, ?_⟩)) ⟨rfl, (decide_eq_false (by omega)).symm⟩
          rintro e _ ⟨rfl, rfl⟩
          by_cases hkm : k < j + m
          · rw [decide_eq_true hkm]
            refine zrun ?_ ?_
            exact nw_round (k + 1) (by repeat (first | exact True.intro | refine ⟨rfl, ?_⟩)) ⟨rfl, by omega, by omega⟩ (by omega)
          · have hkm' : k = j + m := by omega
            rw [decide_eq_false hkm]
            subst hkm'
            clear hkm hk1 hk2 hj
            refine zrun ?_ ?_
            refine x_build (cs := encC (({ kind := 4, at_ := w.length, byte := b, count := (l.length : Int) } : Cel), .slice none 0 0, .slice none 0 0)) rfl rfl rfl (ocp_cons rfl (ocp_cons rfl (ocp_cons rfl (ocp_cons rfl ocp_nil)))) rfl trivial ?_
            refine x_alloc rfl rfl trivial ?_
            intro H1 hn1
            refine ⟨trivial, ?_⟩
            have hs1 := hn1.size
            refine x_stores rfl rfl rfl rfl (by simp [encC, oneC, Value.oneCell']) hn1.blk (by simp [encC]) trivial ?_
            intro H2 hB2 hk2 hs2
            refine ⟨trivial, ?_⟩
            have hk02 : Keep Non H H2 := keep_at hn1.keep hk2 (Nat.le_refl _)
            have hB2 : Blk H2 H.size (encC (({ kind := 4, at_ := w.length, byte := b, count := (l.length : Int) } : Cel), .slice none 0 0, .slice none 0 0)) := hB2
            refine zrun ?_ ?_
            refine x_slice_lh rfl rfl rfl rfl sP (by omega) (by omega) (by omega) rfl trivial ?_
            intro u9 hu9 hcu9
            have P9 := (hP.keepN hk02).cut (a := j) (b := j + m) hu9 hcu9 (by omega) (by omega)
            have eM : (l.take (j + m)).drop j = (l.drop j).take m := by rw [List.drop_take, Nat.add_sub_cancel_left]
            rw [eM] at P9
            have hM0 : ((l.drop j).take m)[0]? = some p := by rw [List.getElem?_take, if_pos hm0, List.getElem?_drop]; exact hp
            generalize hMd : (l.drop j).take m = M at P9 hM0
            obtain ⟨ky, y0, y1, y2⟩ := P9.at_ hM0
            have sKy := y2.1.sl
            have sP9 := P9.row.sl
            have hMpos : 0 < M.length := (List.getElem?_eq_some_iff.1 hM0).1
            have hMc : ∃ r, M = p :: r := by
              cases M with
              | nil => simp at hMpos
              | cons a r => simp at hM0; exact ⟨r, by rw [hM0]⟩
            obtain ⟨rM, hMc⟩ := hMc
            have hblt : sb u9 < B0 := P9.off (fun e => by rw [e] at hMpos; simp at hMpos)
            refine zrunc ?_ ?_
            refine cw_cut (fun e : Bool => [(0, vp), (1, .int .i64 w.length), (6, .int .i64 j), (7, .int .i64 (j + m)), (8, ptr H.size 0), (9, u9), (79, .bool e)]) (fun e H' => H2 = H' ∧ e = decide (p.1.length = w.length + 1)) ?_ ?_
            · refine zrun ?_ ?_
              refine x_load rfl rfl (hpmt (y0)) rfl trivial ?_
              refine zrun ?_ ?_
              refine nw_meet _ (by repeat (first | exact True.intro | refine ⟨rfl, ?_⟩)) ⟨rfl, ?_⟩
              by_cases hpn : p.1.length = w.length + 1
              · rw [decide_eq_true hpn, hpn]; simp
              · rw [decide_eq_false hpn]; exact beq_eq_false_iff_ne.2 (fun e => hpn (by omega))
            rintro e _ ⟨rfl, rfl⟩
            obtain ⟨own, how⟩ : ∃ own, own = ownV (w.length + 1) M := ⟨_, rfl⟩
            obtain ⟨X, hX⟩ : ∃ X, X = offOwn (w.length + 1) M := ⟨_, rfl⟩
            refine zrunc ?_ ?_
            refine cw_cut (fun u : Value => [(0, vp), (1, .int .i64 w.length), (6, .int .i64 j), (7, .int .i64 (j + m)), (8, ptr H.size 0), (9, u)]) (fun u H' => Keep (· = H.size) H2 H' ∧ Blk H' H.size (encC (({ kind := 4, at_ := w.length, byte := b, count := (l.length : Int), full := own.isSome, val := own.getD 0 } : Cel), .slice none 0 0, .slice none 0 0)) ∧ PIn B0 H' u X) ?_ ?_
            · by_cases hpn : p.1.length = w.length + 1
              · have e1 : own = some p.2 := by rw [how, hMc]; exact if_pos hpn
                have e2 : X = M.drop 1 := by rw [hX]; unfold offOwn; rw [← how, e1]; rfl
                rw [decide_eq_true hpn]
                have hkr := Keep.refl (fun z => z = H.size) H2
                refine zrunc ?_ ?_
                refine cw_held (fun _ => Keep (fun z => z = H.size) H2) ⟨[5, 7], [(3, 0)]⟩ (.op 0 (.op 1 (.op 2 (.op 3 (.op 4 (.op 5 (.op 6 (.op 7 (.nil))))))))) panicOk_body mixed (by kernel_rfl) ?_
                refine zhrun ?_ ?_
                refine x_load rfl rfl (hpmk rfl (fun _ hk => hk.cel y1 (fun (e : _ = _) => by omega))) rfl (okq_load rfl rfl (by assumption)) ?_
                refine zhrun ?_ ?_
                refine x_store rfl rfl rfl rfl hB2 (by simp [encC]) ⟨rfl, rfl⟩ ?_
                intro H3 hB3 hk3 hs3
                refine ⟨okm_keep hk3 (fun _ _ e => e), ?_⟩
                refine zhrun ?_ ?_
                refine x_store rfl rfl rfl rfl hB3 (by simp [encC]) ⟨rfl, rfl⟩ ?_
                intro H4 hB4 hk4 hs4
                refine ⟨okm_keep hk4 (fun _ _ e => e), ?_⟩
                have hk24 := hk3.step hk4 (fun _ _ e => e)
                refine zhrun ?_ ?_
                refine zrun ?_ ?_
                refine x_slice_l rfl rfl rfl sP9 (by omega) (by omega) rfl trivial ?_
                intro u10 hu10 hcu10
                have P10 := (P9.keep hk24 (fun z hz (e : z = _) => by omega)).cut (a := 1) (b := M.length) hu10 hcu10 (by omega) (Nat.le_refl _)
                rw [List.take_length, ← e2] at P10
                refine zrun ?_ ?_
                exact nw_meet u10 (by repeat (first | exact True.intro | refine ⟨rfl, ?_⟩)) ⟨hk24, by rw [e1]; exact hB4, P10⟩
              · have e1 : own = none := by rw [how, hMc]; exact if_neg hpn
                have e2 : X = M := by rw [hX]; unfold offOwn; rw [← how, e1]; rfl
                rw [decide_eq_false hpn]
                refine zrun ?_ ?_
                exact nw_meet u9 (by repeat (first | exact True.intro | refine ⟨rfl, ?_⟩)) ⟨Keep.refl _ _, by rw [e1]; exact hB2, by rw [e2]; exact P9⟩
            rintro u H3 ⟨hk23, hB3, P3⟩
            have hk03 : Keep Non H H3 := hk02.old hk23 (fun z hz (e : z = _) => by omega)
            have hs3 := hk03.size
            have hWM := hc.way
            rw [hMd] at hWM
            have hl1 : (w ++ [b]).length = w.length + 1 := by simp
            obtain ⟨o1, o2, o3⟩ := own_off hWM
            rw [hl1, ← hX] at o2 o3
            have sMl : List.Sublist M l := by rw [← hMd]; exact (List.take_sublist _ _).trans (List.drop_sublist _ _)
            have sXl := o3.trans sMl
            have wX := hc.wtX
            rw [hMd, ← hX] at wX
            have wA := hc.wtA
            have wR := hc.wtR
            have hdd : (l.drop j).drop m = l.drop (j + m) := by rw [List.drop_drop]
            rw [hdd] at wR
            have sA := List.take_sublist j l
            have sR := List.drop_sublist (j + m) l
            have ht := hc.tree f
            rw [hMd, ← how, ← hX, hdd] at ht
            have iX := fun (u : Value) (H : Heap) (h1 : PIn B0 H u X) (h2 : B0 ≤ H.size) => ih (w := w ++ [b]) (l := X) (vp := u) (hF.sub sXl) (hWM.sub o3) (by rw [hl1]; exact o2) (by rw [hl1]; omega) (by rw [hl1]; have := hF.key p (List.mem_of_getElem? hp); omega) h1 h2
            rw [hl1] at iX
            have fA := ternT_few (f := f) (hF.sub sA) (hW.sub sA) (hL.sub sA)
            have fX := ternT_few (f := f) (w := w ++ [b]) (hF.sub sXl) (hWM.sub o3) (by rw [hl1]; exact o2)
            rw [hl1] at fX
            have fR := ternT_few (f := f) (hF.sub sR) (hW.sub sR) (hL.sub sR)
            have hpairs := (ternT_ok (f + 1) (lo := -1) (hi := 256) hW hL (fun q hq => by have := (byK w.length q).toNat_lt; omega) hf).1
            rw [ht] at hpairs ⊢
            have iR := fun (u : Value) (H : Heap) (h1 : PIn B0 H u (l.drop (j + m))) (h2 : B0 ≤ H.size) => ih (w := w) (l := l.drop (j + m)) (vp := u) (hF.sub sR) (hW.sub sR) (hL.sub sR) (by omega) hw h1 h2
            have iA := fun (u : Value) (H : Heap) (h1 : PIn B0 H u (l.take j)) (h2 : B0 ≤ H.size) => ih (w := w) (l := l.take j) (vp := u) (hF.sub sA) (hW.sub sA) (hL.sub sA) (by omega) hw h1 h2
            have hcnt := TT.count_pairs (.node b own (ternT f (l.take j) w.length) (ternT f X (w.length + 1)) (ternT f (l.drop (j + m)) w.length)) w
            rw [hpairs] at hcnt
            generalize ternT f (l.take j) w.length = tA at iA fA hcnt ⊢
            generalize ternT f X (w.length + 1) = tX at iX fX hcnt ⊢
            generalize ternT f (l.drop (j + m)) w.length = tR at iR fR hcnt ⊢
            rw [← TT.cells_len tA w.length] at fA
            rw [← TT.cells_len tX (w.length + 1)] at fX
            rw [← TT.cells_len tR w.length] at fR
            clear ht ih hpairs wA wR wX
            refine zrunc ?_ ?_
            refine cw_held (fun _ _ => True) ⟨[4, 8, 13], []⟩ (.op 0 (.op 1 (.op 2 (.op 3 (.op 5 (.op 6 (.op 7 (.op 9 (.op 10 (.op 11 (.op 12 (.op 4 (.op 8 (.op 13 (.op 14 (.op 15 (.op 16 (.nil)))))))))))))))))) panicOk_body mixed (by kernel_rfl) ?_
            refine zhrun ?_ ?_
            refine x_slice_h rfl rfl rfl sP (by omega) (by omega) rfl (okq_reg rfl rfl) ?_
            intro u1 hu1 hcu1
            have P1 := hP.cut (a := 0) (b := j) hu1 hcu1 (by omega) (by omega)
            rw [List.drop_zero] at P1
            refine zhrun ?_ ?_
            refine x_slice_l rfl rfl rfl sP (by omega) (by omega) rfl (okq_reg rfl rfl) ?_
            intro u2 hu2 hcu2
            have P2 := hP.cut (a := j + m) (b := l.length) hu2 hcu2 (by omega) (by omega)
            rw [List.take_length] at P2
            refine zhrun ?_ ?_
            refine x_call rfl rfl rfl ⟨rfl, rfl⟩ (iA u1 H3 (P1.keepN hk03) (by omega)) ?_
            rintro vA H4 ⟨hk4, hA4⟩
            refine ⟨okm_nil rfl, ?_⟩
            have hs4 := hk4.size
            refine zhrun ?_ ?_
            refine x_call rfl rfl rfl ⟨rfl, rfl⟩ (iX u H4 (P3.keepN hk4) (by omega)) ?_
            rintro vX H5 ⟨hk5, hX5⟩
            refine ⟨okm_nil rfl, ?_⟩
            have hs5 := hk5.size
            refine zhrun ?_ ?_
            refine x_call rfl rfl rfl ⟨rfl, rfl⟩ (iR u2 H5 (P2.keepN ((hk03.non_trans hk4).non_trans hk5)) (by omega)) ?_
            rintro vR H6 ⟨hk6, hR6⟩
            refine ⟨okm_nil rfl, ?_⟩
            have hs6 := hk6.size
            have hk36 := (hk4.non_trans hk5).non_trans hk6
            have hk06 := hk03.non_trans hk36
            have hB6 := hB3.keep hk36 (fun h => h)
            have hA6 := (hA4.keepN (hk5.non_trans hk6)).mono (B' := H3.size) (Nat.le_refl _)
            have hX6 := (hX5.keepN hk6).mono (B' := H3.size) (by omega)
            have hR6 := hR6.mono (B' := H3.size) (by omega)
            have sA6 := hA6.sl
            have sX6 := hX6.sl
            have sR6 := hR6.sl
            have cA := TT.cells_ne (t := tA) (n := w.length)
            have cX := TT.cells_ne (t := tX) (n := w.length + 1)
            have cR := TT.cells_ne (t := tR) (n := w.length)
            have bA := TT.isT_le tA
            have bX := TT.isT_le tX
            have bR := TT.isT_le tR
            have hB3s : H.size < H3.size := hB3.lt
            refine zhrun ?_ ?_
            refine zrun ?_ ?_
            refine cw_cut (fun _ : Unit => [(8, ptr H.size 0), (10, vA), (11, vX), (12, vR)]) (fun _ H' => Keep (· = H.size) H6 H' ∧ Blk H' H.size (encC (({ kind := 4, at_ := w.length, byte := b, count := (l.length : Int), kids := (tA.isT : Int), full := own.isSome, val := own.getD 0 } : Cel), .slice none 0 0, .slice none 0 0))) ?_ ?_
            · refine cw_cond rfl (fun g => ?_) (fun g => ?_)
              · have g := of_decide_eq_true g
                have e : (tA.isT : Int) = 1 := by omega
                refine zrun ?_ ?_
                refine x_store rfl rfl rfl rfl hB6 (by simp [encC]) trivial ?_
                intro H7 hB7 hk7 hs7
                refine ⟨trivial, ?_⟩
                refine zrun ?_ ?_
                exact nw_meet () (by repeat (first | exact True.intro | refine ⟨rfl, ?_⟩)) ⟨hk7, by rw [e]; exact hB7⟩
              · have g := of_decide_eq_false g
                have e : (tA.isT : Int) = 0 := by omega
                refine zrun ?_ ?_
                exact nw_meet () (by repeat (first | exact True.intro | refine ⟨rfl, ?_⟩)) ⟨Keep.refl _ _, by rw [e]; exact hB6⟩
            rintro _ H7 ⟨hk7, hB7⟩
            have k7 : cel H7 H.size 3 = some (.int .i64 tA.isT) := by rw [hB7.cel]; rfl
            refine zrun ?_ ?_
            refine cw_cut (fun _ : Unit => [(8, ptr H.size 0), (10, vA), (11, vX), (12, vR)]) (fun _ H' => Keep (· = H.size) H7 H' ∧ Blk H' H.size (encC (({ kind := 4, at_ := w.length, byte := b, count := (l.length : Int), kids := (tA.isT : Int) + 2 * (tX.isT : Int), full := own.isSome, val := own.getD 0 } : Cel), .slice none 0 0, .slice none 0 0))) ?_ ?_
            · refine cw_cond rfl (fun g => ?_) (fun g => ?_)
              · have g := of_decide_eq_true g
                have e : (tA.isT : Int) + 2 * (tX.isT : Int) = (tA.isT : Int) + 2 := by omega
                refine zrun ?_ ?_
                refine x_load rfl rfl (hpmt (k7)) rfl trivial ?_
                refine zrun ?_ ?_
                refine x_store rfl rfl rfl rfl hB7 (by simp [encC]) trivial ?_
                intro H8 hB8 hk8 hs8
                refine ⟨trivial, ?_⟩
                refine zrun ?_ ?_
                exact nw_meet () (by repeat (first | exact True.intro | refine ⟨rfl, ?_⟩)) ⟨hk8, by rw [e]; exact hB8⟩
              · have g := of_decide_eq_false g
                have e : (tA.isT : Int) + 2 * (tX.isT : Int) = (tA.isT : Int) := by omega
                refine zrun ?_ ?_
                exact nw_meet () (by repeat (first | exact True.intro | refine ⟨rfl, ?_⟩)) ⟨Keep.refl _ _, by rw [e]; exact hB7⟩
            rintro _ H8 ⟨hk8, hB8⟩
            have k8 : cel H8 H.size 3 = some (.int .i64 ((tA.isT : Int) + 2 * (tX.isT : Int))) := by rw [hB8.cel]; rfl
            refine zrun ?_ ?_
            refine cw_cut (fun _ : Unit => [(8, ptr H.size 0), (10, vA), (11, vX), (12, vR)]) (fun _ H' => Keep (· = H.size) H8 H' ∧ Blk H' H.size (encC (({ kind := 4, at_ := w.length, byte := b, count := (l.length : Int), kids := (tA.isT : Int) + 2 * (tX.isT : Int) + 4 * (tR.isT : Int), full := own.isSome, val := own.getD 0 } : Cel), .slice none 0 0, .slice none 0 0))) ?_ ?_
            · refine cw_cond rfl (fun g => ?_) (fun g => ?_)
              · have g := of_decide_eq_true g
                have e : (tA.isT : Int) + 2 * (tX.isT : Int) + 4 * (tR.isT : Int) = (tA.isT : Int) + 2 * (tX.isT : Int) + 4 := by omega
                refine zrun ?_ ?_
                refine x_load rfl rfl (hpmt (k8)) rfl trivial ?_
                refine zrun ?_ ?_
                refine x_store rfl rfl rfl rfl hB8 (by simp [encC]) trivial ?_
                intro H9 hB9 hk9 hs9
                refine ⟨trivial, ?_⟩
                refine zrun ?_ ?_
                exact nw_meet () (by repeat (first | exact True.intro | refine ⟨rfl, ?_⟩)) ⟨hk9, by rw [e]; exact hB9⟩
              · have g := of_decide_eq_false g
                have e : (tA.isT : Int) + 2 * (tX.isT : Int) + 4 * (tR.isT : Int) = (tA.isT : Int) + 2 * (tX.isT : Int) := by omega
                refine zrun ?_ ?_
                exact nw_meet () (by repeat (first | exact True.intro | refine ⟨rfl, ?_⟩)) ⟨Keep.refl _ _, by rw [e]; exact hB8⟩
            rintro _ H9 ⟨hk9, hB9⟩
            have hk69 : Keep (· = H.size) H6 H9 := (hk7.step hk8 (fun _ _ h => h)).step hk9 (fun _ _ h => h)
            have hs9 := hk69.size
            have hk09 : Keep Non H H9 := hk06.old hk69 (fun z hz (e : z = _) => by omega)
            have hoff : ∀ z, z < B0 → ¬ (z = H.size) := fun z hz e => by omega
            have hA9 := hA6.keep hk69 hoff (fun hc e => by have := hA6.fresh hc; omega)
            have hX9 := hX6.keep hk69 hoff (fun hc e => by have := hX6.fresh hc; omega)
            have hR9 := hR6.keep hk69 hoff (fun hc e => by have := hR6.fresh hc; omega)
            have ecell : (({ kind := 4, at_ := w.length, byte := b, count := (l.length : Int), kids := (tA.isT : Int) + 2 * (tX.isT : Int) + 4 * (tR.isT : Int), full := own.isSome, val := own.getD 0 } : Cel)) = TT.cell w.length b own tA tX tR := by
              unfold TT.cell
              have e1 : (l.length : Int) = ((tA.count + (if own.isSome then 1 else 0) + tX.count + tR.count : Nat) : Int) := by rw [← hcnt]; rfl
              have e2 : (tA.isT : Int) + 2 * (tX.isT : Int) + 4 * (tR.isT : Int) = ((tA.isT + 2 * tX.isT + 4 * tR.isT : Nat) : Int) := by omega
              rw [e1, e2]
            rw [ecell] at hB9
            refine zrun ?_ ?_
            refine x_loads (cs := encC (TT.cell w.length b own tA tX tR, .slice none 0 0, .slice none 0 0)) rfl rfl rfl (hpmt (hB9.cels 0 9 (by simp [encC]))) rfl trivial ?_
            refine zrun ?_ ?_
            refine x_buildSliceS1 (by rfl) rfl rfl (by omega) (by rfl) rfl trivial ?_
            intro H10 hn10
            refine ⟨trivial, ?_⟩
            have hs10 := hn10.size
            have hC10 : CO B0 H9.size H10 _ [TT.cell w.length b own tA tX tR] := CO.one hn10 ⟨rfl, ⟨Bs.nil _, fun h => absurd rfl h⟩, PsK.nil _ _, fun h => absurd rfl h⟩
            obtain ⟨q1, o1, a1⟩ := hC10.row
            obtain ⟨qA, oA, aA⟩ := (hA9.keepN hn10.keep).row
            have sVA := oA.sl
            refine zrun ?_ ?_
            refine x_append (by rfl) (by rfl) (by rfl) rfl rfl rfl o1 sVA (by rw [rws_length encC_len, aA.len]) oA.cels (al_oneC aA) (by simp only [List.length_singleton]; omega) rfl trivial ?_
            intro v11 H11 hap11
            refine ⟨trivial, ?_⟩
            have hs11 := hap11.keep.size
            have hC11 : CO B0 H9.size H11 v11 _ := CO.app a1 aA hC10.fresh (by omega) (by omega) hap11
            have hk11 : Keep Non H9 H11 := hap11.old (H0 := H9) (fun hc => hC10.fresh hc) hn10.keep
            obtain ⟨q2, o2', a2⟩ := hC11.row
            obtain ⟨qX, oX, aX⟩ := (hX9.keepN hk11).row
            have sVX := oX.sl
            refine zrun ?_ ?_
            refine x_append (by rfl) (by rfl) (by rfl) rfl rfl rfl o2' sVX (by rw [rws_length encC_len, aX.len]) oX.cels (al_oneC aX) (by rw [List.length_append, List.length_singleton]; omega) rfl trivial ?_
            intro v12 H12 hap12
            refine ⟨trivial, ?_⟩
            have hs12 := hap12.keep.size
            have hC12 : CO B0 H9.size H12 v12 _ := CO.app a2 aX hC11.fresh (by omega) (by omega) hap12
            have hk12 : Keep Non H9 H12 := hap12.old (H0 := H9) (fun hc => hC11.fresh hc) hk11
            obtain ⟨q3, o3', a3⟩ := hC12.row
            obtain ⟨qR, oR, aR⟩ := (hR9.keepN hk12).row
            have sVR := oR.sl
            refine zrun ?_ ?_
            refine x_append (by rfl) (by rfl) (by rfl) rfl rfl rfl o3' sVR (by rw [rws_length encC_len, aR.len]) oR.cels (al_oneC aR) (by rw [List.length_append, List.length_append, List.length_singleton]; omega) rfl trivial ?_
            intro v13 H13 hap13
            refine ⟨trivial, ?_⟩
            have hC13 : CO B0 H9.size H13 v13 _ := CO.app a3 aR hC12.fresh (by omega) (by omega) hap13
            have hk13 : Keep Non H9 H13 := hap13.old (H0 := H9) (fun hc => hC12.fresh hc) hk12
            refine zrun ?_ ?_
            refine cw_ret1 rfl rfl ⟨hk09.non_trans hk13, ?_⟩
            have := hC13.mono (B' := H.size) (by omega)
            rw [List.append_assoc, List.append_assoc] at this
            show CO B0 H.size H13 v13 (_ :: (_ ++ _ ++ _))
            rw [List.append_assoc]
            exact this
      · exfalso; omega
end Go.Proofs.YtkdmcbacofafpaaDoor.X
