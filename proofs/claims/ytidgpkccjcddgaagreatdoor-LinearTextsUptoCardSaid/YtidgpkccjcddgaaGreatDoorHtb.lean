/- A rational is read: the reference's Parse of layer 3. Condition: a text of at most 67108864 bytes. -/
import Derived.Test.YtidgpkccjcddgaaGreatDoorHta
import Derived.Test.YtidgpkccjcddgaaGreatDoorGp
import Derived.Deep.DeepCutAuto
import Derived.Deep.CutBlock
set_option linter.unusedVariables false
set_option linter.unusedSimpArgs false
namespace Go.Proofs.YtidgpkccjcddgaaGreatDoor.F
open Go.RowKit Go.Shelf Go.Proofs.YtidgpkccjcddgaaGreatDoorW.PrintLast

theorem tr_digs {q : Rat} (h : ∀ b ∈ tr q, isDig b = true) : q.den = 1 ∧ tr q = Lib.decDigits q.num.natAbs := by
  by_cases hd : q.den = 1
  · exact ⟨hd, (cut_tr_one hd).2⟩
  · exact absurd (h 47 (by unfold tr; rw [if_neg hd]; simp)) (by decide)
theorem tr_split {q : Rat} {i : Nat} {y : UInt8} {t : List UInt8} (h : ∀ b ∈ (tr q).take i, isDig b = true) (hd : (tr q).drop i = y :: t) (hy : isDig y = false) :
    q.den ≠ 1 ∧ (tr q).take i = Lib.decDigits q.num.natAbs ∧ y = 47 ∧ t = Lib.decDigits q.den := by
  by_cases h1 : q.den = 1
  · exfalso
    have hm : y ∈ tr q := List.mem_of_mem_drop (i := i) (by rw [hd]; simp)
    rw [(cut_tr_one h1).2] at hm
    rw [(decDigits_facts _).1 y hm] at hy
    cases hy
  · have e : tr q = Lib.decDigits q.num.natAbs ++ 47 :: Lib.decDigits q.den := by unfold tr; rw [if_neg h1]
    rw [e] at h hd ⊢
    generalize hD : Lib.decDigits q.num.natAbs = D at *
    have hi : i = D.length := by
      rcases Nat.lt_trichotomy i D.length with hlt | heq | hgt
      · exfalso
        rw [List.drop_append_of_le_length (by omega)] at hd
        have hm : y ∈ D := by
          have h2 : D.drop i ≠ [] := by
            intro e2
            have := congrArg List.length e2
            rw [List.length_drop, List.length_nil] at this
            omega
          cases h3 : D.drop i with
          | nil => exact absurd h3 h2
          | cons z r =>
            rw [h3, List.cons_append, List.cons.injEq] at hd
            rw [← hd.1]
            exact List.mem_of_mem_drop (i := i) (by rw [h3]; simp)
        rw [← hD] at hm
        rw [(decDigits_facts _).1 y hm] at hy
        cases hy
      · exact heq
      · exfalso
        refine absurd (h 47 ?_) (by decide)
        (
          rw [List.take_append, List.take_of_length_le (by omega)]
          refine List.mem_append_right _ ?_
          obtain ⟨k, hk⟩ : ∃ k, i - D.length = k + 1 := ⟨i - D.length - 1, by omega⟩
          rw [hk, List.take_succ_cons]
          simp)
    subst hi
    rw [List.drop_left] at hd
    rw [List.take_left]
    simp only [List.cons.injEq] at hd
    exact ⟨h1, rfl, hd.1.symm, hd.2.symm⟩
theorem r1MulN (A : Option Addr) (c n : Nat) (B : Option Addr) (d : Nat) (w : World) (h : In w A c (dg n)) (hm : (dg n).length ≤ 549755813888) (k : In w B d [10]) :
    Calls Tryz.prog 192 #[.slice A (dg n).length c, .slice B 1 d] w (ToldN w (n * 10)) :=
  (r1_Mul A c (dg n) B d [10] w h hm k (by simp)).mono fun e w' h => Told.nat (n := n * 10) (by rw [V_dg, show V [10] = 10 from rfl] at h; simpa using h)
theorem r1AddN (A : Option Addr) (c n : Nat) (B : Option Addr) (d : Nat) (y : Int) (z : Nat) (hy : y = (z : Int)) (w : World) (h : In w A c (dg n)) (hm : (dg n).length ≤ 549755813888) (k : In w B d [y]) :
    Calls Tryz.prog 191 #[.slice A (dg n).length c, .slice B 1 d] w (ToldN w (n + z)) :=
  (r1_Add A c (dg n) B d [y] w h (by omega) k (by simp)).mono fun e w' h => Told.nat (n := n + z) (by
    rw [V_dg, show V [y] = (z : Int) by rw [hy]; simp [V]] at h
    rwa [show ((n : Int) + (z : Int)) = ((n + z : Nat) : Int) by omega] at h)

set_option maxHeartbeats 20000000 in
set_option maxRecDepth 100000 in
theorem r3_Parse (s : List UInt8) (w : World) (hs : s.length ≤ 67108864) :
    Calls Tryz.prog 119 #[.string ⟨s.toArray⟩] w (ToldPR w s) := by
  have HF := Lib.hid ((Fr.refl w).box [.bool false, .slice none 0 0, .slice none 0 0] 43)
  have hsz := str_size s
  have HUn := Lib.hid (show s.head? ≠ some 45 → ∀ q0, s = tq q0 → s = tr q0 ∧ false = decide (q0.num < 0) from fun hn q0 h => by
    obtain ⟨h1, h2⟩ := tq_sign q0
    have h3 : Lib.hasPrefix (tq q0) [45] = false := by
      rw [prefix_one, ← h]
      simpa using hn
    rw [h3] at h1
    refine ⟨?_, h1⟩
    rw [← h2, h]
    unfold Lib.trimPrefix
    rw [h3]
    rfl)
  have HSG := Lib.hid (str_get s)
  have HSC := Lib.hid (str_from s)
  generalize hSB : (⟨s.toArray⟩ : ByteArray) = SB at *
  have HSB := Lib.hid hSB
  clear hSB
  go_enter Tryz.func119, Tryz.ntmps119
  go_upto_region 2 with fail
  go_cut [20] (fun s20 wx => wx = w.alloc (.cells #[.bool false, .slice none 0 0, .slice none 0 0] 43) ∧ s20 = .bool (decide (s.head? = some 45)))
  case first =>
    by_cases he : s = []
    · have hz0 : s.length = 0 := by rw [he]; rfl
      have hB := Lib.hid (show false = decide (s.head? = some 45) by rw [he]; rfl)
      clear HUn
      go_wp2
      go_meet
      case rel => exact ⟨rfl, congrArg Value.bool hB.out⟩
    · have hp0 : 0 < s.length := List.length_pos_iff.2 he
      have hpz : (0 : Int) < (s.length : Int) := by omega
      have hp : 0 < SB.size := by omega
      have hx := HSG.out 0 hp
      by_cases h45 : s.head? = some 45
      · have hxz : ((SB[0]'hp).toNat : Int) = 45 := by
          rw [hx]
          cases s with
          | nil => exact absurd rfl he
          | cons b r => simp at h45; rw [h45]; rfl
        have hB := Lib.hid (show true = decide (s.head? = some 45) from (decide_eq_true h45).symm)
        clear hx h45 he hp0 HUn
        go_wp2
        go_meet
        case rel => exact ⟨rfl, congrArg Value.bool hB.out⟩
      · have hxz : (((SB[0]'hp).toNat : Int) == 45) = false := by
          rw [hx, beq_eq_false_iff_ne]
          intro e
          cases s with
          | nil => exact he rfl
          | cons b r =>
            have hb : b = 45 := UInt8.toNat_inj.1 (show b.toNat = 45 by simp at e; omega)
            exact h45 (by rw [hb]; rfl)
        have hB := Lib.hid (show false = decide (s.head? = some 45) from (decide_eq_false h45).symm)
        clear hx h45 he hp0 HUn
        go_wp2
        go_meet
        case rel => exact ⟨rfl, congrArg Value.bool hB.out⟩
  case rest =>
  obtain ⟨rfl, rfl⟩ := hcut
  go_upto_if 20 with (fail)
  go_cut [0, 4] (fun s0 s4 wx => wx = w.alloc (.cells #[.bool false, .slice none 0 0, .slice none 0 0] 43) ∧ ∃ (d : List UInt8) (nb : Bool), s0 = .string ⟨d.toArray⟩ ∧ s4 = .bool nb ∧ d.length ≤ s.length ∧ Hid (∀ q0, s = tq q0 → d = tr q0 ∧ nb = decide (q0.num < 0)))
  case first =>
    by_cases h45 : s.head? = some 45
    · rw [decide_eq_true h45]
      obtain ⟨r, rfl⟩ : ∃ r, s = 45 :: r := by
        cases s with
        | nil => cases h45
        | cons b r => simp at h45; exact ⟨r, by rw [h45]⟩
      have hlen : (45 :: r).length = r.length + 1 := rfl
      have hcut : SB.extract 1 (r.length + 1) = ⟨r.toArray⟩ := HSC.out 1
      have HU := Lib.hid (show ∀ q0, 45 :: r = tq q0 → r = tr q0 ∧ true = decide (q0.num < 0) from fun q0 h => by
        obtain ⟨h1, h2⟩ := tq_sign q0
        rw [← h] at h1 h2
        exact ⟨h2, h1⟩)
      have hlr : r.length ≤ (45 :: r).length := by rw [hlen]; omega
      rw [hlen] at hs hsz
      clear h45 HUn
      go_wp2
      go_meet
      case rel => exact ⟨rfl, r, true, by first | rfl | rw [hcut], rfl, hlr, HU⟩
    · rw [decide_eq_false h45]
      have HU := Lib.hid (HUn.out h45)
      clear h45 HUn
      go_wp2
      go_meet
      case rel => exact ⟨rfl, s, false, congrArg Value.string HSB.out.symm, rfl, Nat.le_refl _, HU⟩
  case rest =>
    obtain ⟨rfl, d, nb, rfl, rfl, hds, HU⟩ := hcut
    clear HUn HSG HSC HSB
    have hz := str_size d
    have HG := Lib.hid (str_get d)
    have HT0 := Lib.hid (str_to d)
    have HF0s := Lib.hid (str_from d)
    generalize hDB : (⟨d.toArray⟩ : ByteArray) = DB at *
    go_upto_block 0 with fail
    go_cut [5] (fun s5 wx => wx = w.alloc (.cells #[.bool false, .slice none 0 0, .slice none 0 0] 43) ∧ ∃ i : Nat, i ≤ d.length ∧ s5 = .int .i64 i ∧ Hid (∀ b ∈ d.take i, isDig b = true) ∧ Hid (∀ h : i < d.length, isDig d[i] = false))
    case first =>
      go_wp2_with fail
      go_loopg [5] d.length (fun gg s5 wr => ∃ i : Nat, i + gg = d.length ∧ s5 = .int .i64 i ∧ wr = w.alloc (.cells #[.bool false, .slice none 0 0, .slice none 0 0] 43) ∧ Hid (∀ b ∈ d.take i, isDig b = true))
      case atStart => exact ⟨0, by omega, rfl, rfl, (show Hid _ from fun b hb => by simp at hb)⟩
      case round =>
        obtain ⟨i, hg, rfl, rfl, HI⟩ := hrel
        by_cases hlt : i < d.length
        · have hltz : (i : Int) < (d.length : Int) := by omega
          have hi2 : i < DB.size := by omega
          have hx := HG.out i hi2
          have hgi : d.getD i 0 = d[i] := by simp [hlt]
          rw [hgi] at hx
          have HT := Lib.hid (List.take_succ_eq_append_getElem hlt)
          have HYd := Lib.hid (show d[i] = d[i] from rfl)
          clear hgi
          generalize hy0 : d[i] = y at hx HT
          have HY0 := Lib.hid hy0
          clear hy0 HYd
          by_cases hb : isDig y = true
          · have hb1 := (isDig_iff.1 hb).1
            have hb2 := (isDig_iff.1 hb).2
            have HI2 := Lib.hid (show ∀ c ∈ d.take (i + 1), isDig c = true from fun c hc => by
              rw [HT.out] at hc
              rcases List.mem_append.1 hc with hc | hc
              · exact HI.out c hc
              · rw [List.mem_singleton.1 hc]; exact hb)
            have hbz1 : (48 : Int) ≤ (y.toNat : Int) := by omega
            have hbz2 : (y.toNat : Int) ≤ 57 := by omega
            clear HT HI hb HY0
            go_wp2
            go_roundg (d.length - (i + 1))
            case measure => omega
            case rel => exact ⟨i + 1, by omega, by go_num, rfl, HI2⟩
          · have hbf : isDig y = false := by simpa using hb
            have hbr := dig_range hbf
            have HN := Lib.hid (show ∀ h : i < d.length, isDig d[i] = false from fun h => by rw [HY0.out]; exact hbf)
            clear HT hb hbf HY0
            rcases hbr with hbr | hbr
            · have hbz1 : ¬ (48 : Int) ≤ (y.toNat : Int) := by omega
              go_wp2
              go_meet
              case rel => exact ⟨rfl, i, by omega, rfl, HI, HN⟩
            · have hbz1 : (48 : Int) ≤ (y.toNat : Int) := by omega
              have hbz2 : ¬ (y.toNat : Int) ≤ 57 := by omega
              go_wp2
              go_meet
              case rel => exact ⟨rfl, i, by omega, rfl, HI, HN⟩
        · have hltz : ¬ (i : Int) < (d.length : Int) := by omega
          go_wp2
          go_meet
          case rel => exact ⟨rfl, i, by omega, rfl, HI, (show Hid _ from fun h => absurd h hlt)⟩
    case rest =>
      obtain ⟨rfl, i, hid, rfl, HI, HNd⟩ := hcut
      by_cases hlt : i < d.length
      · have HDr := Lib.hid (List.drop_eq_getElem_cons hlt)
        have hbf := HNd.out hlt
        generalize d[i] = y at *
        have hy8 : y.toNat < 256 := y.toNat_lt
        obtain ⟨t, ht⟩ : ∃ t, d.drop (i + 1) = t := ⟨_, rfl⟩
        have hdr := HDr.out
        rw [ht] at hdr
        have htl : t.length + 1 + i = d.length := by
          have := congrArg List.length hdr
          rw [List.length_drop, List.length_cons] at this
          omega
        have hP := Lib.hid (fun (W : World) => r1_Parse (d.take i) W (by rw [List.length_take]; omega))
        have hcut1 : DB.extract 0 i = ⟨(d.take i).toArray⟩ := HT0.out i
        have hcut2 : DB.extract i d.length = ⟨(y :: t).toArray⟩ := by rw [← hdr]; exact HF0s.out i
        have hrz : (⟨(y :: t).toArray⟩ : ByteArray).size = t.length + 1 := str_size (y :: t)
        have hr0 : 0 < (⟨(y :: t).toArray⟩ : ByteArray).size := by omega
        have hrx : (⟨(y :: t).toArray⟩ : ByteArray)[0]'hr0 = y := str_get (y :: t) 0 hr0
        have hrc : (⟨(y :: t).toArray⟩ : ByteArray).extract 1 (t.length + 1) = ⟨t.toArray⟩ := str_from (y :: t) 1
        have HSp := Lib.hid (show ∀ q0, s = tq q0 → q0.den ≠ 1 ∧ d.take i = Lib.decDigits q0.num.natAbs ∧ y = 47 ∧ t = Lib.decDigits q0.den ∧ nb = decide (q0.num < 0) from fun q0 h => by
          obtain ⟨h1, h2⟩ := HU.out q0 h
          have h3 := hdr
          have h4 := HI.out
          rw [h1] at h3 h4
          obtain ⟨k1, k2, k3, k4⟩ := tr_split h4 h3 hbf
          rw [← h1] at k2
          exact ⟨k1, k2, k3, k4, h2⟩)
        have HRG := Lib.hid (str_get (y :: t))
        have hal : (d.take i).length = i := by rw [List.length_take]; omega
        have hiz : (i : Int) ≤ (d.length : Int) := by omega
        clear HDr hdr ht HI HU HT0 HF0s HNd
        generalize d.take i = a at *
        generalize (⟨(y :: t).toArray⟩ : ByteArray) = RB at *
        generalize hAB : (⟨a.toArray⟩ : ByteArray) = AB at *
        go_wp2_with fail
        refine (hP.out _).mono ?_
        rintro e W1 (⟨na, A1, c1, rfl, q1, q2⟩ | ⟨na, rfl, q2⟩)
        · replace HF := Lib.hid (HF.out.below q2)
          have H1 := Lib.hid q1
          have hl1 := nOk_len na
          have hv1 := nOk_lt na
          clear q1 q2 hP
          by_cases h47 : y = 47
          · have hy1 : ((y.toNat : Int) == 47) = true := by rw [h47]; rfl
            have hP2 := Lib.hid (fun (W : World) => r1_Parse t W (by omega))
            clear hbf hy8
            generalize hTB : (⟨t.toArray⟩ : ByteArray) = TB at *
            go_wp2_with fail
            refine (hP2.out _).mono ?_
            rintro e W2 (⟨nt, A2, c2, rfl, q1, q2⟩ | ⟨nt, rfl, q2⟩)
            · replace HF := Lib.hid (HF.out.below q2)
              replace H1 := Lib.hid (H1.out.below q2)
              have H2 := Lib.hid q1
              clear q1 q2 hP2
              by_cases hz : decV 0 t = 0
              · have hdz : (dg (decV 0 t)).length = 0 := by rw [hz, dg_zero]; rfl
                rw [hdz]
                have HX := Lib.hid (show ∀ q0, s ≠ tq q0 from fun q0 h => by have h1 := (HSp.out q0 h).2.2.2.1; rw [h1, (nOk_dec _).2] at hz; exact absurd hz (by have := q0.den_pos; omega))
                have hf0 := HF.out.frozenN 0 rfl 0
                have hf1 := HF.out.frozenN 0 rfl 1
                have hf2 := HF.out.frozenN 0 rfl 2
                have hd0 := HF.out.cellN 0 rfl 0 rfl
                have hd1 := HF.out.cellN 0 rfl 1 rfl
                have hd2 := HF.out.cellN 0 rfl 2 rfl
                have HE := Lib.hid (end_no HF.out (Nat.le_refl _) rfl)
                have HF0 := HF
                clear hz HSp H1 H2 HF
                go_wp2
                first | exact post_ownU HE.out.2 rfl rfl rfl Tryz.underlying43 rfl (by kernel_rfl) (.inr ⟨rfl, HE.out.1, HX.out⟩) | exact post_ownU (HF0.out.ownN 0 rfl) rfl rfl rfl Tryz.underlying43 rfl (by kernel_rfl) (.inr ⟨rfl, HF0.out.bel, HX.out⟩)
              · have hdp : 0 < (dg (decV 0 t)).length := List.length_pos_iff.2 (fun h => hz (dg_eq_nil.1 h))
                have hl2 := nOk_len nt
                have hM := Lib.hid (r3_Norm nb A1 c1 (dg (decV 0 a)) A2 c2 (dg (decV 0 t)) W2 H1.out (by omega) H2.out (by omega))
                have hrv := rv_len nb (Lim_dg (decV 0 a)) (Lim_dg (decV 0 t))
                have HQ := Lib.hid (show ∀ q0, s = tq q0 → rv nb (dg (decV 0 a)) (dg (decV 0 t)) = q0 from fun q0 h => by
                  obtain ⟨_, h2, _, h4, h5⟩ := HSp.out q0 h
                  rw [h2, h4, h5, (nOk_dec _).2, (nOk_dec _).2, rv_can])
                clear H1 H2 HSp hz
                generalize rv nb (dg (decV 0 a)) (dg (decV 0 t)) = q at *
                have hdz : ((((dg (decV 0 t)).length : Int)) == 0) = false := by rw [beq_eq_false_iff_ne]; omega
                have HS := Lib.hid (show (dg q.num.natAbs).length + (dg q.den).length ≤ 2 * s.length + 4 by (try simp only [List.length_cons]); omega)
                generalize (dg (decV 0 t)).length = lb at *
                go_wp2_with fail
                refine hM.out.mono ?_
                rintro e W7 ⟨A7, c7, B7, d7, rfl, q1, q2, q3⟩
                replace HF := Lib.hid (HF.out.below q3)
                have hf0 := HF.out.frozenN 0 rfl 0
                have hf1 := HF.out.frozenN 0 rfl 1
                have hf2 := HF.out.frozenN 0 rfl 2
                have hd0 := HF.out.cellN 0 rfl 0 rfl
                have hd1 := HF.out.cellN 0 rfl 1 rfl
                have hd2 := HF.out.cellN 0 rfl 2 rfl
                have HE := Lib.hid (end_ratQ HF.out (by simp) (by simp) (Nat.le_refl _) q1 q2 rfl)
                clear HF q1 q2 q3 hM
                generalize hqb : decide (q.num < 0) = qb at *
                generalize hqn : (dg q.num.natAbs).length = qn at *
                go_wp2
                subst hqb hqn
                exact post_ownU HE.out.2.2 rfl rfl rfl Tryz.underlying43 rfl (by kernel_rfl) (.inl ⟨q, _, _, _, _, rfl, HE.out.1, HS.out, HE.out.2.1, HQ.out⟩)
            · replace HF := Lib.hid (HF.out.below q2)
              have HX := Lib.hid (show ∀ q0, s ≠ tq q0 from fun q0 h => by have h1 := (HSp.out q0 h).2.2.2.1; rw [h1, (nOk_dec _).1] at nt; cases nt)
              have hf0 := HF.out.frozenN 0 rfl 0
              have hf1 := HF.out.frozenN 0 rfl 1
              have hf2 := HF.out.frozenN 0 rfl 2
              have hd0 := HF.out.cellN 0 rfl 0 rfl
              have hd1 := HF.out.cellN 0 rfl 1 rfl
              have hd2 := HF.out.cellN 0 rfl 2 rfl
              have HE := Lib.hid (end_no HF.out (Nat.le_refl _) rfl)
              have HF0 := HF
              clear HSp H1 HF
              go_wp2
              first | exact post_ownU HE.out.2 rfl rfl rfl Tryz.underlying43 rfl (by kernel_rfl) (.inr ⟨rfl, HE.out.1, HX.out⟩) | exact post_ownU (HF0.out.ownN 0 rfl) rfl rfl rfl Tryz.underlying43 rfl (by kernel_rfl) (.inr ⟨rfl, HF0.out.bel, HX.out⟩)
          · have hy1 : ((y.toNat : Int) == 47) = false := by
              rw [beq_eq_false_iff_ne]
              intro e
              exact h47 (UInt8.toNat_inj.1 (show y.toNat = 47 by omega))
            have HX0 := Lib.hid (show ∀ q0, s ≠ tq q0 from fun q0 h => h47 (HSp.out q0 h).2.2.1)
            clear h47 HSp
            by_cases h46 : y = 46 ∧ t ≠ []
            · obtain ⟨h46, htn⟩ := h46
              have hy2 : (y.toNat : Int) = 46 := by rw [h46]; rfl
              have htp : 0 < t.length := List.length_pos_iff.2 htn
              have hr1 : (((t.length : Int) + 1) == 1) = false := by rw [beq_eq_false_iff_ne]; omega
              clear h46 htn hbf hrc
              have hal1 := below_one W1 1
              have HPo := Lib.hid (show In (W1.alloc (.cells #[.int .u32 1] 133)) (some ⟨W1.heap.size, 0, none⟩) 1 (dg 1) by rw [dg_one]; exact In.unit (by decide) (by decide))
              replace HF := Lib.hid (HF.out.below hal1)
              replace H1 := Lib.hid (H1.out.below hal1)
              have hl1o : (dg 1).length = 1 := by rw [dg_one]; rfl
              clear hal1
              generalize hn0 : decV 0 a = n0 at *
              clear hn0
              go_wp2_with fail
              clear hrx hr0 hy2 hy1 hr1
              go_loopg [6, 11, 12] t.length (fun gg s6 s11 s12 wr => ∃ (j : Nat) (A : Option Addr) (c : Nat) (B : Option Addr) (d : Nat), j + gg = t.length ∧ s12 = .int .i64 ((j : Int) + 1) ∧ s6 = .slice A (dg (decV n0 (t.take j))).length c ∧ s11 = .slice B (dg (10 ^ j)).length d ∧ Hid (∀ b ∈ t.take j, isDig b = true) ∧ Hid (In wr A c (dg (decV n0 (t.take j)))) ∧ Hid (In wr B d (dg (10 ^ j))) ∧ Hid (Fr w wr [(w.heap.size, [.bool false, .slice none 0 0, .slice none 0 0])]))
              case atStart => exact ⟨0, A1, c1, some ⟨W1.heap.size, 0, none⟩, 1, by omega, rfl, rfl, by rw [Nat.pow_zero, hl1o], (show Hid _ from fun b hb => by simp at hb), H1, HPo, HF⟩
              case round =>
                clear HF H1 HPo
                obtain ⟨j, A, c, B, d, hg, rfl, rfl, rfl, HI, HN, HP, HF⟩ := hrel
                have hvl : ∀ (b : List UInt8), (∀ x ∈ b, isDig x = true) → (dg (decV n0 b)).length ≤ a.length + b.length + 1 := fun b hb => by
                  have h1 := decV_lt b n0 hb
                  have h2 : (n0 + 1) * 10 ^ b.length ≤ 10 ^ (a.length + b.length) := by
                    rw [Nat.pow_add]
                    exact Nat.mul_le_mul_right _ hv1
                  exact dg_ten_lt (Nat.lt_of_lt_of_le h1 h2)
                have HVL := Lib.hid hvl
                have hlN := hvl _ HI.out
                have hlP := dg_ten j
                clear hvl
                have htj : (t.take j).length ≤ t.length := by rw [List.length_take]; omega
                by_cases hlt : j < t.length
                · have hltz : (j : Int) + 1 < (t.length : Int) + 1 := by omega
                  have hi2 : j + 1 < RB.size := by omega
                  have hx := HRG.out (j + 1) hi2
                  have hgj : (y :: t).getD (j + 1) 0 = t[j] := by simp [hlt]
                  rw [hgj] at hx
                  have HT := Lib.hid (List.take_succ_eq_append_getElem hlt)
                  clear hgj
                  generalize t[j] = z at *
                  have hz8 : z.toNat < 256 := z.toNat_lt
                  have ejz : ((j : Int) + 1).toNat = j + 1 := by omega
                  have hj0 : (0 : Int) ≤ (j : Int) + 1 := by omega
                  by_cases hd : isDig z = true
                  · have hb1 := (isDig_iff.1 hd).1
                    have hb2 := (isDig_iff.1 hd).2
                    have hI2 : ∀ c ∈ t.take (j + 1), isDig c = true := fun c hc => by
                      rw [HT.out] at hc
                      rcases List.mem_append.1 hc with hc | hc
                      · exact HI.out c hc
                      · rw [List.mem_singleton.1 hc]; exact hd
                    obtain ⟨k, hk⟩ : ∃ k : Nat, z.toNat = 48 + k := ⟨z.toNat - 48, by omega⟩
                    have hdv : decV n0 (t.take (j + 1)) = decV n0 (t.take j) * 10 + k := by rw [HT.out, decV_snoc]; unfold dstep; rw [hk]; omega
                    have hpw : 10 ^ (j + 1) = 10 ^ j * 10 := Nat.pow_succ ..
                    have HI2 := Lib.hid hI2
                    have hlN2 := HVL.out _ hI2
                    have htj2 : (t.take (j + 1)).length ≤ t.length := by rw [List.length_take]; omega
                    have hlM : (dg (decV n0 (t.take j) * 10)).length ≤ a.length + t.length + 1 := by
                      refine Nat.le_trans (dg_length_mono (n := decV n0 (t.take (j + 1))) (by rw [hdv]; omega)) ?_
                      omega
                    rw [hdv] at hlN2
                    have hbz1' : ¬ (z.toNat : Int) < 48 := by omega
                    have hbz2' : ¬ (57 : Int) < (z.toNat : Int) := by omega
                    have ek : (z.toNat : Int) - 48 = (k : Int) := by omega
                    have ew : IntKind.u8.wrap (k : Int) = (k : Int) := by rw [IntKind.wrap_u8]; omega
                    have ew2 : IntKind.u32.wrap (k : Int) = (k : Int) := by rw [IntKind.wrap_u32]; omega
                    have hk10 : k < 10 := by omega
                    clear HT HI hd hI2 HVL hk
                    have HEQ := Lib.hid (And.intro hdv hpw)
                    clear hdv hpw
                    generalize decV n0 (t.take j) = N at *
                    generalize 10 ^ j = P at *
                    go_wp2_with fail
                    replace HN := Lib.hid (HN.out.below (Below.drew (Below.refl _ _)))
                    replace HP := Lib.hid (HP.out.below (Below.drew (Below.refl _ _)))
                    have HF_ := Lib.hid HF.out.drew
                    clear HF
                    have HF := HF_
                    clear HF_
                    refine start_ (n := 11) (S := fun w' => True) (ds := []) #[false, false, false, false, false, false, false, false, false, false, false] (by kernel_rfl) rfl rfl trivial (fun hHeld => ?_)
                    generalize World.drew _ = W at *
                    refine pure_ (i := 0) (N := (some 113)) (v := ?_) (a' := ?_) #[true, false, false, false, false, false, false, false, false, false, false] rfl rfl (by kernel_rfl) (fun _ _ _ h => h) (Or.inl ⟨by rfl, ?_⟩) ?_ ?_
                    rotate_left
                    · intro w'
                      go_simp
                      with_reducible rfl
                    rotate_left
                    · simp only [Act.put, List.setIfInBounds_toArray, List.set_cons_zero, List.set_cons_succ]
                      rfl
                    refine pure_ (i := 3) (N := (some 116)) (v := ?_) (a' := ?_) #[true, false, false, true, false, false, false, false, false, false, false] rfl rfl (by kernel_rfl) (fun _ _ _ h => h) (Or.inl ⟨by rfl, ?_⟩) ?_ ?_
                    rotate_left
                    · intro w'
                      go_simp
                      with_reducible rfl
                    rotate_left
                    · simp only [Act.put, List.setIfInBounds_toArray, List.set_cons_zero, List.set_cons_succ]
                      rfl
                    refine pure_ (i := 4) (N := (some 117)) (v := ?_) (a' := ?_) #[true, false, false, true, true, false, false, false, false, false, false] rfl rfl (by kernel_rfl) (fun _ _ _ h => h) (Or.inl ⟨by rfl, ?_⟩) ?_ ?_
                    rotate_left
                    · intro w'
                      go_simp
                      with_reducible rfl
                    rotate_left
                    · simp only [Act.put, List.setIfInBounds_toArray, List.set_cons_zero, List.set_cons_succ]
                      rfl
                    refine pure_ (i := 5) (N := (some 118)) (v := ?_) (a' := ?_) #[true, false, false, true, true, true, false, false, false, false, false] rfl rfl (by kernel_rfl) (fun _ _ _ h => h) (Or.inl ⟨by rfl, ?_⟩) ?_ ?_
                    rotate_left
                    · intro w'
                      go_simp
                      with_reducible rfl
                    rotate_left
                    · simp only [Act.put, List.setIfInBounds_toArray, List.set_cons_zero, List.set_cons_succ]
                      rfl
                    refine pure_ (i := 6) (N := (some 119)) (v := ?_) (a' := ?_) #[true, false, false, true, true, true, true, false, false, false, false] rfl rfl (by kernel_rfl) (fun _ _ _ h => h) (Or.inl ⟨by rfl, ?_⟩) ?_ ?_
                    rotate_left
                    · intro w'
                      go_simp
                      with_reducible rfl
                    rotate_left
                    · simp only [Act.put, List.setIfInBounds_toArray, List.set_cons_zero, List.set_cons_succ]
                      rfl
                    refine pure_ (i := 7) (N := (some 120)) (v := ?_) (a' := ?_) #[true, false, false, true, true, true, true, true, false, false, false] rfl rfl (by kernel_rfl) (fun _ _ _ h => h) (Or.inl ⟨by rfl, ?_⟩) ?_ ?_
                    rotate_left
                    · intro w'
                      go_simp
                      with_reducible rfl
                    rotate_left
                    · simp only [Act.put, List.setIfInBounds_toArray, List.set_cons_zero, List.set_cons_succ]
                      rfl
                    refine join_ (σ := Nat × Nat × (Option Addr × Nat) × Option Addr × Nat) 0 #[true, true, true, true, true, true, true, true, true, true, true] (fun ⟨g1, g2, ⟨A3, c3⟩, A4, c4⟩ => [(114, .slice (some ⟨g1, 0, none⟩) 1 1), (115, .slice A3 (dg (N * 10)).length c3), (121, .slice (some ⟨g2, 0, none⟩) 1 1), (122, .slice A4 (dg (N * 10 + k)).length c4), (6, .slice A4 (dg (N * 10 + k)).length c4)]) (fun ⟨g1, g2, ⟨A3, c3⟩, A4, c4⟩ W' => Fr w W' [(w.heap.size, [.bool false, .slice none 0 0, .slice none 0 0])] ∧ In W' A4 c4 (dg (N * 10 + k)) ∧ In W' B d (dg P)) ?hc0 ?hm0
                    case hm0 =>
                      intro hcont
                      refine two_ (i := 1) (j := 8) (Ni := (some 114)) (Nj := (some 121)) #[true, true, false, true, true, true, true, true, false, false, false] #[true, false, false, true, true, true, true, true, true, false, false] rfl rfl rfl rfl (by kernel_rfl) (by decide) (by decide) (fun K hK => ?_) (fun K hK => ?_)
                      · refine value_ (v := ?_) (w1 := ?_) (by rfl) rfl ?_ ?_
                        rotate_left
                        rotate_left
                        · go_simp
                          first | rfl | (refine ⟨?_, ?_⟩ <;> rfl)
                        have hal_ := below_one W 10
                        have H10 := Lib.hid (show In (W.alloc (.cells #[.int .u32 10] 133)) (some ⟨W.heap.size, 0, none⟩) 1 [10] from In.unit (by decide) (by decide))
                        replace HN := Lib.hid (HN.out.below hal_)
                        replace HP := Lib.hid (HP.out.below hal_)
                        try replace HD := Lib.hid (HD.out.below hal_)
                        replace HF := Lib.hid (HF.out.below hal_)
                        clear hal_
                        refine hK.out _ _ trivial (fun hHeld => ?_)
                        clear hK K
                        refine norm_ (a' := ?_) ?_ ?_
                        rotate_left
                        · show Act.put _ (some 114) _ = _
                          simp only [Act.put, List.setIfInBounds_toArray, List.set_cons_zero, List.set_cons_succ]
                          rfl
                        obtain ⟨g1, hg1⟩ : ∃ g, g = W.heap.size := ⟨_, rfl⟩
                        obtain ⟨W1, hV⟩ : ∃ X, X = W.alloc (.cells #[.int .u32 10] 133) := ⟨_, rfl⟩
                        rw [← hg1] at H10 ⊢
                        rw [← hV] at HF HN HP H10 ⊢
                        try rw [← hV] at HD
                        clear hg1 hV
                        refine two_ (i := 2) (j := 8) (Ni := (some 115)) (Nj := (some 121)) #[true, true, true, true, true, true, true, true, false, false, false] #[true, true, false, true, true, true, true, true, true, false, false] rfl rfl rfl rfl (by kernel_rfl) (by decide) (by decide) (fun K hK => ?_) (fun K hK => ?_)
                        · refine goes_ Tryz.func192 (by kernel_rfl) rfl #[.slice A (dg N).length c, .slice (some ⟨g1, 0, none⟩) 1 1] (by rfl) rfl rfl (by (try simp only [List.map_toArray, List.map_cons, List.map_nil]); first | done | rfl) ?_
                          refine (r1MulN A c N (some ⟨g1, 0, none⟩) 1 W1 HN.out (by omega) H10.out).mono ?_
                          rintro e W2 ⟨A3, c3, rfl, q1, q2⟩
                          refine ⟨_, rfl, ?_⟩
                          replace HF := Lib.hid (HF.out.below q2)
                          replace HP := Lib.hid (HP.out.below q2)
                          try replace HD := Lib.hid (HD.out.below q2)
                          have H3 := Lib.hid q1
                          clear q1 q2 HN H10
                          refine hK.out _ _ trivial (fun hHeld => ?_)
                          clear hK K
                          refine norm_ (a' := ?_) ?_ ?_
                          rotate_left
                          · show Act.put _ (some 115) _ = _
                            simp only [Act.put, List.setIfInBounds_toArray, List.set_cons_zero, List.set_cons_succ]
                            rfl
                          refine one_ (i := 8) (N := (some 121)) #[true, true, true, true, true, true, true, true, true, false, false] rfl rfl (by kernel_rfl) (by decide) (fun K hK => ?_)
                          refine value_ (v := ?_) (w1 := ?_) (by rfl) rfl ?_ ?_
                          rotate_left
                          rotate_left
                          · go_simp
                            first | rfl | (refine ⟨?_, ?_⟩ <;> rfl)
                          have hal_ := below_one W2 (k : Int)
                          have HD := Lib.hid (show In (W2.alloc (.cells #[.int .u32 (k : Int)] 133)) (some ⟨W2.heap.size, 0, none⟩) 1 [(k : Int)] from In.unit (by omega) (by omega))
                          try replace HN := Lib.hid (HN.out.below hal_)
                          replace HP := Lib.hid (HP.out.below hal_)
                          try replace H10 := Lib.hid (H10.out.below hal_)
                          try replace H3 := Lib.hid (H3.out.below hal_)
                          replace HF := Lib.hid (HF.out.below hal_)
                          clear hal_
                          refine hK.out _ _ trivial (fun hHeld => ?_)
                          clear hK K
                          refine norm_ (a' := ?_) ?_ ?_
                          rotate_left
                          · show Act.put _ (some 121) _ = _
                            simp only [Act.put, List.setIfInBounds_toArray, List.set_cons_zero, List.set_cons_succ]
                            rfl
                          obtain ⟨g2, hg2⟩ : ∃ g, g = W2.heap.size := ⟨_, rfl⟩
                          obtain ⟨W3, hV⟩ : ∃ X, X = W2.alloc (.cells #[.int .u32 (k : Int)] 133) := ⟨_, rfl⟩
                          rw [← hg2] at HD ⊢
                          rw [← hV] at HF HP HD ⊢
                          try rw [← hV] at HN
                          try rw [← hV] at H10
                          try rw [← hV] at H3
                          clear hg2 hV
                          refine one_ (i := 9) (N := (some 122)) #[true, true, true, true, true, true, true, true, true, true, false] rfl rfl (by kernel_rfl) (by decide) (fun K hK => ?_)
                          refine goes_ Tryz.func191 (by kernel_rfl) rfl #[.slice A3 (dg (N * 10)).length c3, .slice (some ⟨g2, 0, none⟩) 1 1] (by rfl) rfl rfl (by (try simp only [List.map_toArray, List.map_cons, List.map_nil]); first | done | rfl) ?_
                          refine (r1AddN A3 c3 (N * 10) (some ⟨g2, 0, none⟩) 1 (k : Int) k rfl W3 H3.out (by omega) HD.out).mono ?_
                          rintro e W4 ⟨A4, c4, rfl, q1, q2⟩
                          refine ⟨_, rfl, ?_⟩
                          replace HF := Lib.hid (HF.out.below q2)
                          replace HP := Lib.hid (HP.out.below q2)
                          have H4 := Lib.hid q1
                          clear q1 q2 H3 HD
                          refine hK.out _ _ trivial (fun hHeld => ?_)
                          clear hK K
                          refine norm_ (a' := ?_) ?_ ?_
                          rotate_left
                          · show Act.put _ (some 122) _ = _
                            simp only [Act.put, List.setIfInBounds_toArray, List.set_cons_zero, List.set_cons_succ]
                            rfl
                          refine pure_ (i := 10) (N := (some 6)) (v := ?_) (a' := ?_) #[true, true, true, true, true, true, true, true, true, true, true] rfl rfl (by kernel_rfl) (fun _ _ _ h => h) (Or.inl ⟨by rfl, ?_⟩) ?_ ?_
                          rotate_left
                          · intro w'
                            go_simp
                            with_reducible rfl
                          rotate_left
                          · simp only [Act.put, List.setIfInBounds_toArray, List.set_cons_zero, List.set_cons_succ]
                            rfl
                          exact hcont (g1, g2, (A3, c3), A4, c4) _ ⟨HF.out, H4.out, HP.out⟩
                        · refine value_ (v := ?_) (w1 := ?_) (by rfl) rfl ?_ ?_
                          rotate_left
                          rotate_left
                          · go_simp
                            first | rfl | (refine ⟨?_, ?_⟩ <;> rfl)
                          have hal_ := below_one W1 (k : Int)
                          have HD := Lib.hid (show In (W1.alloc (.cells #[.int .u32 (k : Int)] 133)) (some ⟨W1.heap.size, 0, none⟩) 1 [(k : Int)] from In.unit (by omega) (by omega))
                          try replace HN := Lib.hid (HN.out.below hal_)
                          replace HP := Lib.hid (HP.out.below hal_)
                          try replace H10 := Lib.hid (H10.out.below hal_)
                          try replace H3 := Lib.hid (H3.out.below hal_)
                          replace HF := Lib.hid (HF.out.below hal_)
                          clear hal_
                          refine hK.out _ _ trivial (fun hHeld => ?_)
                          clear hK K
                          refine norm_ (a' := ?_) ?_ ?_
                          rotate_left
                          · show Act.put _ (some 121) _ = _
                            simp only [Act.put, List.setIfInBounds_toArray, List.set_cons_zero, List.set_cons_succ]
                            rfl
                          obtain ⟨g2, hg2⟩ : ∃ g, g = W1.heap.size := ⟨_, rfl⟩
                          obtain ⟨W5, hV⟩ : ∃ X, X = W1.alloc (.cells #[.int .u32 (k : Int)] 133) := ⟨_, rfl⟩
                          rw [← hg2] at HD ⊢
                          rw [← hV] at HF HP HD ⊢
                          try rw [← hV] at HN
                          try rw [← hV] at H10
                          try rw [← hV] at H3
                          clear hg2 hV
                          refine one_ (i := 2) (N := (some 115)) #[true, true, true, true, true, true, true, true, true, false, false] rfl rfl (by kernel_rfl) (by decide) (fun K hK => ?_)
                          refine goes_ Tryz.func192 (by kernel_rfl) rfl #[.slice A (dg N).length c, .slice (some ⟨g1, 0, none⟩) 1 1] (by rfl) rfl rfl (by (try simp only [List.map_toArray, List.map_cons, List.map_nil]); first | done | rfl) ?_
                          refine (r1MulN A c N (some ⟨g1, 0, none⟩) 1 W5 HN.out (by omega) H10.out).mono ?_
                          rintro e W6 ⟨A3, c3, rfl, q1, q2⟩
                          refine ⟨_, rfl, ?_⟩
                          replace HF := Lib.hid (HF.out.below q2)
                          replace HP := Lib.hid (HP.out.below q2)
                          try replace HD := Lib.hid (HD.out.below q2)
                          have H3 := Lib.hid q1
                          clear q1 q2 HN H10
                          refine hK.out _ _ trivial (fun hHeld => ?_)
                          clear hK K
                          refine norm_ (a' := ?_) ?_ ?_
                          rotate_left
                          · show Act.put _ (some 115) _ = _
                            simp only [Act.put, List.setIfInBounds_toArray, List.set_cons_zero, List.set_cons_succ]
                            rfl
                          refine one_ (i := 9) (N := (some 122)) #[true, true, true, true, true, true, true, true, true, true, false] rfl rfl (by kernel_rfl) (by decide) (fun K hK => ?_)
                          refine goes_ Tryz.func191 (by kernel_rfl) rfl #[.slice A3 (dg (N * 10)).length c3, .slice (some ⟨g2, 0, none⟩) 1 1] (by rfl) rfl rfl (by (try simp only [List.map_toArray, List.map_cons, List.map_nil]); first | done | rfl) ?_
                          refine (r1AddN A3 c3 (N * 10) (some ⟨g2, 0, none⟩) 1 (k : Int) k rfl W6 H3.out (by omega) HD.out).mono ?_
                          rintro e W7 ⟨A4, c4, rfl, q1, q2⟩
                          refine ⟨_, rfl, ?_⟩
                          replace HF := Lib.hid (HF.out.below q2)
                          replace HP := Lib.hid (HP.out.below q2)
                          have H4 := Lib.hid q1
                          clear q1 q2 H3 HD
                          refine hK.out _ _ trivial (fun hHeld => ?_)
                          clear hK K
                          refine norm_ (a' := ?_) ?_ ?_
                          rotate_left
                          · show Act.put _ (some 122) _ = _
                            simp only [Act.put, List.setIfInBounds_toArray, List.set_cons_zero, List.set_cons_succ]
                            rfl
                          refine pure_ (i := 10) (N := (some 6)) (v := ?_) (a' := ?_) #[true, true, true, true, true, true, true, true, true, true, true] rfl rfl (by kernel_rfl) (fun _ _ _ h => h) (Or.inl ⟨by rfl, ?_⟩) ?_ ?_
                          rotate_left
                          · intro w'
                            go_simp
                            with_reducible rfl
                          rotate_left
                          · simp only [Act.put, List.setIfInBounds_toArray, List.set_cons_zero, List.set_cons_succ]
                            rfl
                          exact hcont (g1, g2, (A3, c3), A4, c4) _ ⟨HF.out, H4.out, HP.out⟩
                      · refine value_ (v := ?_) (w1 := ?_) (by rfl) rfl ?_ ?_
                        rotate_left
                        rotate_left
                        · go_simp
                          first | rfl | (refine ⟨?_, ?_⟩ <;> rfl)
                        have hal_ := below_one W (k : Int)
                        have HD := Lib.hid (show In (W.alloc (.cells #[.int .u32 (k : Int)] 133)) (some ⟨W.heap.size, 0, none⟩) 1 [(k : Int)] from In.unit (by omega) (by omega))
                        try replace HN := Lib.hid (HN.out.below hal_)
                        replace HP := Lib.hid (HP.out.below hal_)
                        try replace H10 := Lib.hid (H10.out.below hal_)
                        try replace H3 := Lib.hid (H3.out.below hal_)
                        replace HF := Lib.hid (HF.out.below hal_)
                        clear hal_
                        refine hK.out _ _ trivial (fun hHeld => ?_)
                        clear hK K
                        refine norm_ (a' := ?_) ?_ ?_
                        rotate_left
                        · show Act.put _ (some 121) _ = _
                          simp only [Act.put, List.setIfInBounds_toArray, List.set_cons_zero, List.set_cons_succ]
                          rfl
                        obtain ⟨g2, hg2⟩ : ∃ g, g = W.heap.size := ⟨_, rfl⟩
                        obtain ⟨W8, hV⟩ : ∃ X, X = W.alloc (.cells #[.int .u32 (k : Int)] 133) := ⟨_, rfl⟩
                        rw [← hg2] at HD ⊢
                        rw [← hV] at HF HP HD ⊢
                        try rw [← hV] at HN
                        try rw [← hV] at H10
                        try rw [← hV] at H3
                        clear hg2 hV
                        refine one_ (i := 1) (N := (some 114)) #[true, true, false, true, true, true, true, true, true, false, false] rfl rfl (by kernel_rfl) (by decide) (fun K hK => ?_)
                        refine value_ (v := ?_) (w1 := ?_) (by rfl) rfl ?_ ?_
                        rotate_left
                        rotate_left
                        · go_simp
                          first | rfl | (refine ⟨?_, ?_⟩ <;> rfl)
                        have hal_ := below_one W8 10
                        have H10 := Lib.hid (show In (W8.alloc (.cells #[.int .u32 10] 133)) (some ⟨W8.heap.size, 0, none⟩) 1 [10] from In.unit (by decide) (by decide))
                        replace HN := Lib.hid (HN.out.below hal_)
                        replace HP := Lib.hid (HP.out.below hal_)
                        try replace HD := Lib.hid (HD.out.below hal_)
                        replace HF := Lib.hid (HF.out.below hal_)
                        clear hal_
                        refine hK.out _ _ trivial (fun hHeld => ?_)
                        clear hK K
                        refine norm_ (a' := ?_) ?_ ?_
                        rotate_left
                        · show Act.put _ (some 114) _ = _
                          simp only [Act.put, List.setIfInBounds_toArray, List.set_cons_zero, List.set_cons_succ]
                          rfl
                        obtain ⟨g1, hg1⟩ : ∃ g, g = W8.heap.size := ⟨_, rfl⟩
                        obtain ⟨W9, hV⟩ : ∃ X, X = W8.alloc (.cells #[.int .u32 10] 133) := ⟨_, rfl⟩
                        rw [← hg1] at H10 ⊢
                        rw [← hV] at HF HN HP H10 ⊢
                        try rw [← hV] at HD
                        clear hg1 hV
                        refine one_ (i := 2) (N := (some 115)) #[true, true, true, true, true, true, true, true, true, false, false] rfl rfl (by kernel_rfl) (by decide) (fun K hK => ?_)
                        refine goes_ Tryz.func192 (by kernel_rfl) rfl #[.slice A (dg N).length c, .slice (some ⟨g1, 0, none⟩) 1 1] (by rfl) rfl rfl (by (try simp only [List.map_toArray, List.map_cons, List.map_nil]); first | done | rfl) ?_
                        refine (r1MulN A c N (some ⟨g1, 0, none⟩) 1 W9 HN.out (by omega) H10.out).mono ?_
                        rintro e W10 ⟨A3, c3, rfl, q1, q2⟩
                        refine ⟨_, rfl, ?_⟩
                        replace HF := Lib.hid (HF.out.below q2)
                        replace HP := Lib.hid (HP.out.below q2)
                        try replace HD := Lib.hid (HD.out.below q2)
                        have H3 := Lib.hid q1
                        clear q1 q2 HN H10
                        refine hK.out _ _ trivial (fun hHeld => ?_)
                        clear hK K
                        refine norm_ (a' := ?_) ?_ ?_
                        rotate_left
                        · show Act.put _ (some 115) _ = _
                          simp only [Act.put, List.setIfInBounds_toArray, List.set_cons_zero, List.set_cons_succ]
                          rfl
                        refine one_ (i := 9) (N := (some 122)) #[true, true, true, true, true, true, true, true, true, true, false] rfl rfl (by kernel_rfl) (by decide) (fun K hK => ?_)
                        refine goes_ Tryz.func191 (by kernel_rfl) rfl #[.slice A3 (dg (N * 10)).length c3, .slice (some ⟨g2, 0, none⟩) 1 1] (by rfl) rfl rfl (by (try simp only [List.map_toArray, List.map_cons, List.map_nil]); first | done | rfl) ?_
                        refine (r1AddN A3 c3 (N * 10) (some ⟨g2, 0, none⟩) 1 (k : Int) k rfl W10 H3.out (by omega) HD.out).mono ?_
                        rintro e W11 ⟨A4, c4, rfl, q1, q2⟩
                        refine ⟨_, rfl, ?_⟩
                        replace HF := Lib.hid (HF.out.below q2)
                        replace HP := Lib.hid (HP.out.below q2)
                        have H4 := Lib.hid q1
                        clear q1 q2 H3 HD
                        refine hK.out _ _ trivial (fun hHeld => ?_)
                        clear hK K
                        refine norm_ (a' := ?_) ?_ ?_
                        rotate_left
                        · show Act.put _ (some 122) _ = _
                          simp only [Act.put, List.setIfInBounds_toArray, List.set_cons_zero, List.set_cons_succ]
                          rfl
                        refine pure_ (i := 10) (N := (some 6)) (v := ?_) (a' := ?_) #[true, true, true, true, true, true, true, true, true, true, true] rfl rfl (by kernel_rfl) (fun _ _ _ h => h) (Or.inl ⟨by rfl, ?_⟩) ?_ ?_
                        rotate_left
                        · intro w'
                          go_simp
                          with_reducible rfl
                        rotate_left
                        · simp only [Act.put, List.setIfInBounds_toArray, List.set_cons_zero, List.set_cons_succ]
                          rfl
                        exact hcont (g1, g2, (A3, c3), A4, c4) _ ⟨HF.out, H4.out, HP.out⟩
                    rintro ⟨g1, g2, ⟨A3, c3⟩, A4, c4⟩ W ⟨hF_, q1, q2⟩
                    clear hHeld
                    refine norm_ (a' := ?_) ?_ ?_
                    rotate_left
                    · show putAll _ _ = _
                      simp only [putAll, Act.put, List.setIfInBounds_toArray, List.set_cons_zero, List.set_cons_succ]
                      rfl
                    refine done_ (by kernel_rfl) ?_
                    have HF := Lib.hid hF_
                    have H4 := Lib.hid q1
                    have HP := Lib.hid q2
                    clear hF_ q1 q2
                    have hal2 := below_one W 10
                    have H10 := Lib.hid (show In (W.alloc (.cells #[.int .u32 10] 133)) (some ⟨W.heap.size, 0, none⟩) 1 [10] from In.unit (by decide) (by decide))
                    replace HF := Lib.hid (HF.out.below hal2)
                    replace H4 := Lib.hid (H4.out.below hal2)
                    replace HP := Lib.hid (HP.out.below hal2)
                    have hMp := Lib.hid (r1MulN B d P (some ⟨W.heap.size, 0, none⟩) 1 _ HP.out (by omega) H10.out)
                    clear hal2 H10 HP
                    go_wp2_with fail
                    refine hMp.out.mono ?_
                    rintro e W8 ⟨B8, d8, rfl, q1, q2⟩
                    have HF8 := Lib.hid (HF.out.below q2)
                    have H48 := Lib.hid (H4.out.below q2)
                    have HP8 := Lib.hid q1
                    clear q1 q2 hMp HF H4
                    rw [← HEQ.out.1] at H48 ⊢
                    rw [← HEQ.out.2] at HP8 ⊢
                    go_wp2
                    go_roundg (t.length - (j + 1))
                    case measure => omega
                    case rel => exact ⟨j + 1, A4, c4, B8, d8, by omega, by go_num, rfl, rfl, HI2, H48, HP8, HF8⟩
                  · have hdf : isDig z = false := by simpa using hd
                    have hzr := dig_range hdf
                    have HX := HX0
                    have hf0 := HF.out.frozenN 0 rfl 0
                    have hf1 := HF.out.frozenN 0 rfl 1
                    have hf2 := HF.out.frozenN 0 rfl 2
                    have hd0 := HF.out.cellN 0 rfl 0 rfl
                    have hd1 := HF.out.cellN 0 rfl 1 rfl
                    have hd2 := HF.out.cellN 0 rfl 2 rfl
                    have HE := Lib.hid (end_no HF.out (Nat.le_refl _) rfl)
                    have HF0 := HF
                    clear HT HI HN HP HVL hd hdf HF HX0
                    rcases hzr with hzr | hzr
                    · have hz1 : (z.toNat : Int) < 48 := by omega
                      go_wp2
                      first | exact post_ownU HE.out.2 rfl rfl rfl Tryz.underlying43 rfl (by kernel_rfl) (.inr ⟨rfl, HE.out.1, HX.out⟩) | exact post_ownU (HF0.out.ownN 0 rfl) rfl rfl rfl Tryz.underlying43 rfl (by kernel_rfl) (.inr ⟨rfl, HF0.out.bel, HX.out⟩)
                    · have hz1 : ¬ (z.toNat : Int) < 48 := by omega
                      have hz2 : (57 : Int) < (z.toNat : Int) := by omega
                      go_wp2
                      first | exact post_ownU HE.out.2 rfl rfl rfl Tryz.underlying43 rfl (by kernel_rfl) (.inr ⟨rfl, HE.out.1, HX.out⟩) | exact post_ownU (HF0.out.ownN 0 rfl) rfl rfl rfl Tryz.underlying43 rfl (by kernel_rfl) (.inr ⟨rfl, HF0.out.bel, HX.out⟩)
                · have hltz : ¬ (j : Int) + 1 < (t.length : Int) + 1 := by omega
                  have hM := Lib.hid (r3_Norm nb A c (dg (decV n0 (t.take j))) B d (dg (10 ^ j)) wr HN.out (by omega) HP.out (by omega))
                  have hrv := rv_len nb (Lim_dg (decV n0 (t.take j))) (Lim_dg (10 ^ j))
                  have HQ := Lib.hid (show ∀ q0, s = tq q0 → rv nb (dg (decV n0 (t.take j))) (dg (10 ^ j)) = q0 from fun q0 h => absurd h (HX0.out q0))
                  clear HI HN HP HVL HX0
                  generalize rv nb (dg (decV n0 (t.take j))) (dg (10 ^ j)) = q at *
                  have HS := Lib.hid (show (dg q.num.natAbs).length + (dg q.den).length ≤ 2 * s.length + 4 by (try simp only [List.length_cons]); omega)
                  go_wp2_with fail
                  refine hM.out.mono ?_
                  rintro e W7 ⟨A7, c7, B7, d7, rfl, q1, q2, q3⟩
                  replace HF := Lib.hid (HF.out.below q3)
                  have hf0 := HF.out.frozenN 0 rfl 0
                  have hf1 := HF.out.frozenN 0 rfl 1
                  have hf2 := HF.out.frozenN 0 rfl 2
                  have hd0 := HF.out.cellN 0 rfl 0 rfl
                  have hd1 := HF.out.cellN 0 rfl 1 rfl
                  have hd2 := HF.out.cellN 0 rfl 2 rfl
                  have HE := Lib.hid (end_ratQ HF.out (by simp) (by simp) (Nat.le_refl _) q1 q2 rfl)
                  clear HF q1 q2 q3 hM
                  generalize hqb : decide (q.num < 0) = qb at *
                  generalize hqn : (dg q.num.natAbs).length = qn at *
                  go_wp2
                  subst hqb hqn
                  exact post_ownU HE.out.2.2 rfl rfl rfl Tryz.underlying43 rfl (by kernel_rfl) (.inl ⟨q, _, _, _, _, rfl, HE.out.1, HS.out, HE.out.2.1, HQ.out⟩)
            · have hfz : ((y.toNat : Int) == 46) = false ∨ ((y.toNat : Int) = 46 ∧ (((t.length : Int) + 1) == 1) = true) := by
                by_cases h1 : y = 46
                · have h2 : t = [] := Decidable.byContradiction fun h => h46 ⟨h1, h⟩
                  exact .inr ⟨by rw [h1]; rfl, by rw [h2]; rfl⟩
                · exact .inl (by
                    rw [beq_eq_false_iff_ne]
                    intro e
                    exact h1 (UInt8.toNat_inj.1 (show y.toNat = 46 by omega)))
              clear h46
              rcases hfz with hfz | ⟨hfz, hfz2⟩
              · have HX := Lib.hid (show ∀ q0, s ≠ tq q0 from HX0.out)
                have hf0 := HF.out.frozenN 0 rfl 0
                have hf1 := HF.out.frozenN 0 rfl 1
                have hf2 := HF.out.frozenN 0 rfl 2
                have hd0 := HF.out.cellN 0 rfl 0 rfl
                have hd1 := HF.out.cellN 0 rfl 1 rfl
                have hd2 := HF.out.cellN 0 rfl 2 rfl
                have HE := Lib.hid (end_no HF.out (Nat.le_refl _) rfl)
                have HF0 := HF
                clear HX0 H1 HF
                go_wp2
                first | exact post_ownU HE.out.2 rfl rfl rfl Tryz.underlying43 rfl (by kernel_rfl) (.inr ⟨rfl, HE.out.1, HX.out⟩) | exact post_ownU (HF0.out.ownN 0 rfl) rfl rfl rfl Tryz.underlying43 rfl (by kernel_rfl) (.inr ⟨rfl, HF0.out.bel, HX.out⟩)
              · have HX := Lib.hid (show ∀ q0, s ≠ tq q0 from HX0.out)
                have hf0 := HF.out.frozenN 0 rfl 0
                have hf1 := HF.out.frozenN 0 rfl 1
                have hf2 := HF.out.frozenN 0 rfl 2
                have hd0 := HF.out.cellN 0 rfl 0 rfl
                have hd1 := HF.out.cellN 0 rfl 1 rfl
                have hd2 := HF.out.cellN 0 rfl 2 rfl
                have HE := Lib.hid (end_no HF.out (Nat.le_refl _) rfl)
                have HF0 := HF
                clear HX0 H1 HF
                go_wp2
                first | exact post_ownU HE.out.2 rfl rfl rfl Tryz.underlying43 rfl (by kernel_rfl) (.inr ⟨rfl, HE.out.1, HX.out⟩) | exact post_ownU (HF0.out.ownN 0 rfl) rfl rfl rfl Tryz.underlying43 rfl (by kernel_rfl) (.inr ⟨rfl, HF0.out.bel, HX.out⟩)
        · replace HF := Lib.hid (HF.out.below q2)
          have HX := Lib.hid (show ∀ q0, s ≠ tq q0 from fun q0 h => by have h1 := (HSp.out q0 h).2.1; rw [h1, (nOk_dec _).1] at na; cases na)
          have hf0 := HF.out.frozenN 0 rfl 0
          have hf1 := HF.out.frozenN 0 rfl 1
          have hf2 := HF.out.frozenN 0 rfl 2
          have hd0 := HF.out.cellN 0 rfl 0 rfl
          have hd1 := HF.out.cellN 0 rfl 1 rfl
          have hd2 := HF.out.cellN 0 rfl 2 rfl
          have HE := Lib.hid (end_no HF.out (Nat.le_refl _) rfl)
          have HF0 := HF
          clear HSp HF
          go_wp2
          first | exact post_ownU HE.out.2 rfl rfl rfl Tryz.underlying43 rfl (by kernel_rfl) (.inr ⟨rfl, HE.out.1, HX.out⟩) | exact post_ownU (HF0.out.ownN 0 rfl) rfl rfl rfl Tryz.underlying43 rfl (by kernel_rfl) (.inr ⟨rfl, HF0.out.bel, HX.out⟩)
      · have hil : i = d.length := by omega
        subst hil
        clear hlt hid HNd
        have hdig : ∀ b ∈ d, isDig b = true := fun b hb => HI.out b (by rw [List.take_of_length_le (Nat.le_refl _)]; exact hb)
        have hP := Lib.hid (show ∀ W : World, Calls Tryz.prog 190 #[.string DB, .int .i64 10] W (ToldP W d) from fun W => by rw [← hDB]; exact r1_Parse d W (by omega))
        have hcut1 : DB.extract 0 d.length = DB := by have := HT0.out d.length; rwa [List.take_of_length_le (Nat.le_refl _), hDB] at this
        have hcut2 : DB.extract d.length d.length = ⟨#[]⟩ := by have := HF0s.out d.length; rwa [List.drop_of_length_le (Nat.le_refl _)] at this
        have HSp := Lib.hid (show ∀ q0, s = tq q0 → q0.den = 1 ∧ d = Lib.decDigits q0.num.natAbs ∧ nb = decide (q0.num < 0) from fun q0 h => by
          obtain ⟨h1, h2⟩ := HU.out q0 h
          have h3 := hdig
          rw [h1] at h3
          obtain ⟨k1, k2⟩ := tr_digs h3
          exact ⟨k1, h1.trans k2, h2⟩)
        clear HI HU HT0 HF0s hdig HG
        go_wp2_with fail
        refine (hP.out _).mono ?_
        rintro e W1 (⟨na, A1, c1, rfl, q1, q2⟩ | ⟨na, rfl, q2⟩)
        · replace HF := Lib.hid (HF.out.below q2)
          have hal := below_one W1 1
          have H1 := Lib.hid (q1.below hal)
          have HO := Lib.hid (show In (W1.alloc (.cells #[.int .u32 1] 133)) (some ⟨W1.heap.size, 0, none⟩) 1 [1] from In.unit (by decide) (by decide))
          replace HF := Lib.hid (HF.out.below hal)
          have hl1 := nOk_len na
          have hM := Lib.hid (r3_Norm nb A1 c1 (dg (decV 0 d)) (some ⟨W1.heap.size, 0, none⟩) 1 [1] _ H1.out (by omega) HO.out (by simp))
          have HQ := Lib.hid (show ∀ q0, s = tq q0 → rv nb (dg (decV 0 d)) [1] = q0 from fun q0 h => by
            obtain ⟨h1, h2, h3⟩ := HSp.out q0 h
            rw [h2, (nOk_dec _).2, h3, ← dg_one]
            have h8 := rv_can q0
            rwa [h1] at h8)
          have hrv := rv_len nb (Lim_dg (decV 0 d)) (show Lim [1] from Lim.cons (by decide) (by decide) Lim.nil)
          clear q1 q2 hal hP HSp H1 HO
          generalize hq : rv nb (dg (decV 0 d)) [1] = q at *
          have HS := Lib.hid (show (dg q.num.natAbs).length + (dg q.den).length ≤ 2 * s.length + 4 by (try simp only [List.length_cons, List.length_nil] at *); omega)
          go_wp2_with fail
          refine hM.out.mono ?_
          rintro e W7 ⟨A7, c7, B7, d7, rfl, q1, q2, q3⟩
          replace HF := Lib.hid (HF.out.below q3)
          have hf0 := HF.out.frozenN 0 rfl 0
          have hf1 := HF.out.frozenN 0 rfl 1
          have hf2 := HF.out.frozenN 0 rfl 2
          have hd0 := HF.out.cellN 0 rfl 0 rfl
          have hd1 := HF.out.cellN 0 rfl 1 rfl
          have hd2 := HF.out.cellN 0 rfl 2 rfl
          have HE := Lib.hid (end_ratQ HF.out (by simp) (by simp) (Nat.le_refl _) q1 q2 rfl)
          clear HF q1 q2 q3 hM
          generalize hqb : decide (q.num < 0) = qb at *
          generalize hqn : (dg q.num.natAbs).length = qn at *
          go_wp2
          subst hqb hqn
          exact post_ownU HE.out.2.2 rfl rfl rfl Tryz.underlying43 rfl (by kernel_rfl) (.inl ⟨q, _, _, _, _, rfl, HE.out.1, HS.out, HE.out.2.1, HQ.out⟩)
        · replace HF := Lib.hid (HF.out.below q2)
          have HX := Lib.hid (show ∀ q0, s ≠ tq q0 from fun q0 h => by have h1 := (HSp.out q0 h).2.1; rw [h1, (nOk_dec _).1] at na; cases na)
          have hf0 := HF.out.frozenN 0 rfl 0
          have hf1 := HF.out.frozenN 0 rfl 1
          have hf2 := HF.out.frozenN 0 rfl 2
          have hd0 := HF.out.cellN 0 rfl 0 rfl
          have hd1 := HF.out.cellN 0 rfl 1 rfl
          have hd2 := HF.out.cellN 0 rfl 2 rfl
          have HE := Lib.hid (end_no HF.out (Nat.le_refl _) rfl)
          have HF0 := HF
          clear HSp HF
          go_wp2
          first | exact post_ownU HE.out.2 rfl rfl rfl Tryz.underlying43 rfl (by kernel_rfl) (.inr ⟨rfl, HE.out.1, HX.out⟩) | exact post_ownU (HF0.out.ownN 0 rfl) rfl rfl rfl Tryz.underlying43 rfl (by kernel_rfl) (.inr ⟨rfl, HF0.out.bel, HX.out⟩)
end Go.Proofs.YtidgpkccjcddgaaGreatDoor.F
