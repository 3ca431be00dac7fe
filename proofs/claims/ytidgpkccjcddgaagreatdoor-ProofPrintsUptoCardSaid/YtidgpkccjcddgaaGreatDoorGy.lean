/- The reference's line of a step. Condition: steps of weight at most 1048576. -/
import Derived.Test.YtidgpkccjcddgaaGreatDoorGx
import Derived.Deep.DeepCutAuto
set_option linter.unusedVariables false
set_option linter.unusedSimpArgs false
namespace Go.Proofs.YtidgpkccjcddgaaGreatDoor.F
open Go.RowKit Go.Shelf Go.Proofs.YtidgpkccjcddgaaGreatDoorW.PrintLast
theorem wdS_len (k : Int) : (wdS k).length ≤ 6 := by unfold wdS; split <;> (try split) <;> decide
set_option maxHeartbeats 4000000 in
set_option maxRecDepth 100000 in
theorem r24_stepLine (s : StepD) (A : Option Addr) (c : Nat) (B : Option Addr) (d : Nat) (D : Option Addr) (e : Nat) (w : World) (h : StIn w s A c B d D e) :
    Calls Tryz.prog 54 #[.agg (stc s A c B d D e).toArray] w fun e' w' => e' = .returned (.string ⟨(lnPr s).toArray⟩) ∧ Below w.heap.size w w' := by
  have hl := h.lens
  have hw : (s.2.map wt).sum ≤ 1048576 := by have := h.good.few; unfold wts at this; omega
  have HXs := Lib.hid h.rowC
  have HYs := Lib.hid h.rowB
  have HIX := Lib.hid h.good.clause
  have HIY := Lib.hid h.good.byl
  have HQ := Lib.hid (fun (k : Nat) (hk : k < s.2.length) => rat_row h.rowQ h.good.good hw k hk)
  have HL1 := Lib.hid (fun i => Nat.le_trans (numsT_le s.1.1.2 i) (numsT_len h.good.clause))
  have HL2 := Lib.hid (fun i => Nat.le_trans (numsT_le s.1.2 i) (numsT_len h.good.byl))
  have HL3 := Lib.hid (fun i => Nat.le_trans (ratsT_le s.2 i) (ratsT_len s.2 h.good.good))
  have HK1 := Lib.hid (fun i (hi : i < s.1.1.2.length) => numsT_take s.1.1.2 i hi)
  have HK2 := Lib.hid (fun i (hi : i < s.1.2.length) => numsT_take s.1.2 i hi)
  have HK3 := Lib.hid (fun i (hi : i < s.2.length) => ratsT_take s.2 i hi)
  have hc1 := h.capC
  have hc2 := h.capB
  have hc3 := h.capQ
  clear h
  obtain ⟨r, hr⟩ : ∃ r, r = lnPr s := ⟨_, rfl⟩
  rw [← hr]
  unfold lnPr at hr
  unfold stc
  obtain ⟨⟨⟨k, xs⟩, ys⟩, qs⟩ := s
  dsimp only at *
  have hwd := wdS_len k
  have HRr := Lib.hid hr
  have HWd := Lib.hid (show wdS k = (if k = 3 then [102, 97, 114, 107, 97, 115] else if k = 2 then [117, 110, 105, 116, 115] else [105, 110, 112, 117, 116]) from rfl)
  clear hr
  generalize wdS k = wd at *
  have HF := Lib.hid ((Fr.refl w).box [.int .i64 k, .slice A xs.length c, .slice B ys.length d, .slice D qs.length e] 80)
  simp only [List.toArray] at *
  go_enter Tryz.func54, Tryz.ntmps54
  go_upto_if 9 with (fail)
  generalize hgt : World.alloc _ _ = W at HF ⊢
  clear hgt
  have a0 := HF.out.cellN 0 rfl 0 rfl
  obtain ⟨w1, hw1⟩ : ∃ w1 : List UInt8, w1 = if k = 2 then [117, 110, 105, 116, 115] else [105, 110, 112, 117, 116] := ⟨_, rfl⟩
  have HW1 := Lib.hid hw1
  clear hw1
  go_cut [3] (fun s3 wx => wx = W ∧ s3 = .string ⟨w1.toArray⟩)
  case first =>
    clear HF HXs HYs HIX HIY HQ HL1 HL2 HL3 HK1 HK2 HK3 HRr HWd
    by_cases k2 : k = 2
    · have HX := Lib.hid (show (⟨#[117, 110, 105, 116, 115]⟩ : ByteArray) = ⟨w1.toArray⟩ from by rw [HW1.out, if_pos k2])
      subst k2
      clear HW1
      go_wp2
      go_meet
      case rel => exact ⟨rfl, congrArg Value.string HX.out⟩
    · have k2b : (k == 2) = false := by simpa using k2
      have HX := Lib.hid (show (⟨#[105, 110, 112, 117, 116]⟩ : ByteArray) = ⟨w1.toArray⟩ from by rw [HW1.out, if_neg k2])
      clear HW1 k2
      go_wp2
      go_meet
      case rel => exact ⟨rfl, congrArg Value.string HX.out⟩
  case rest =>
  obtain ⟨rfl, rfl⟩ := hcut
  go_upto_if 12 with (fail)
  go_cut [3] (fun s3 wy => wy = wc ∧ s3 = .string ⟨wd.toArray⟩)
  case first =>
    clear HF HXs HYs HIX HIY HQ HL1 HL2 HL3 HK1 HK2 HK3 HRr
    by_cases k3 : k = 3
    · have HX := Lib.hid (show (⟨#[102, 97, 114, 107, 97, 115]⟩ : ByteArray) = ⟨wd.toArray⟩ from by rw [HWd.out, if_pos k3])
      subst k3
      clear HW1 HWd
      go_wp2
      go_meet
      case rel => exact ⟨rfl, congrArg Value.string HX.out⟩
    · have k3b : (k == 3) = false := by simpa using k3
      have HX := Lib.hid (show (⟨w1.toArray⟩ : ByteArray) = ⟨wd.toArray⟩ from by rw [HWd.out, if_neg k3, HW1.out])
      clear HW1 HWd k3
      go_wp2
      go_meet
      case rel => exact ⟨rfl, congrArg Value.string HX.out⟩
  case rest =>
  obtain ⟨rfl, rfl⟩ := hcut
  clear HW1 HWd a0
  go_wp2_with fail
  go_loopg [3, 4] xs.length (fun gg s3 s wr => ∃ (i : Nat) (P : List UInt8), i + gg = xs.length ∧ s = .int .i64 i ∧ s3 = .string ⟨P.toArray⟩ ∧ Hid (P = wd ++ numsT (xs.take i)) ∧ Hid (Fr w wr [(w.heap.size, [.int .i64 k, .slice A xs.length c, .slice B ys.length d, .slice D qs.length e])]))
  case atStart => exact ⟨0, _, by omega, rfl, rfl, by show _ = _; simp [numsT], HF.out⟩
  case round =>
  clear HF
  obtain ⟨i, P, hg, rfl, rfl, HP, HF⟩ := hrel
  have a1 := HF.out.cellN 0 rfl 1 rfl
  have hP := congrArg List.length HP.out
  have hPl := HL1.out i
  simp only [List.length_append, List.length_cons, List.length_nil] at hP
  by_cases hlt : i < xs.length
  · have hltz : (i : Int) < (xs.length : Int) := by omega
    have HS := Lib.hid (HK1.out i hlt)
    obtain ⟨ad, rfl, hcell⟩ := Knd.at_int HXs.out i hlt
    have hx := cell_below HF.out.bel hcell
    have hD := Lib.hid (fun (W : World) (hb : Below w.heap.size w W) => r24_decimal xs[i] (HIX.out _ (List.getElem_mem hlt)) W)
    have hpl := HL1.out (i + 1)
    rw [HS.out, List.length_append, List.length_cons] at hpl
    clear hcell
    generalize xs[i] = x at *
    generalize Lib.itoa x = tt9 at *
    go_wp2_with fail
    refine (hD.out _ HF.out.bel).mono ?_
    rintro e' W4 ⟨rfl, hb⟩
    replace HF := Lib.hid (HF.out.below hb)
    have HE := Lib.hid (show ((⟨P.toArray⟩ : ByteArray) ++ ⟨#[32]⟩) ++ ⟨tt9.toArray⟩ = ⟨(P ++ 32 :: tt9).toArray⟩ from by
      rw [show (⟨#[32]⟩ : ByteArray) = ⟨[32].toArray⟩ from rfl, str_append, str_append]; simp)
    have HN := Lib.hid (show P ++ 32 :: tt9 = wd ++ numsT (xs.take (i + 1)) from by rw [HS.out, HP.out]; simp)
    clear hb hD HS HP a1 hx
    go_wp2
    go_roundg (xs.length - (i + 1))
    case measure => omega
    case rel => exact ⟨i + 1, _, by omega, by go_num, congrArg Value.string HE.out, HN, HF⟩
  have hltz : ¬ (i : Int) < (xs.length : Int) := by omega
  have HN1 := Lib.hid (show P = wd ++ numsT xs from by rw [HP.out, List.take_of_length_le (by omega)])
  clear HP hPl hP
  have a0 := HF.out.cellN 0 rfl 0 rfl
  have hPx := congrArg List.length HN1.out
  simp only [List.length_append] at hPx
  have hPy := HL1.out xs.length
  rw [List.take_of_length_le (Nat.le_refl _)] at hPy
  by_cases k1 : k = 1
  · have HX := Lib.hid (show P = r from by rw [HRr.out, if_pos k1, HN1.out, List.append_nil])
    subst k1
    clear HRr HN1
    go_wp2
    go_ret
    exact ⟨congrArg (fun l : List UInt8 => Ending.returned (Value.string ⟨l.toArray⟩)) HX.out, HF.out.bel⟩
  have k1b : (k == 1) = false := by simpa using k1
  have HR2 := Lib.hid (show r = P ++ [32, 98, 121] ++ numsT ys ++ ratsT qs from by rw [HRr.out, if_neg k1, HN1.out]; simp)
  have HS0 := Lib.hid (show (⟨P.toArray⟩ : ByteArray) ++ ⟨#[32, 98, 121]⟩ = ⟨(P ++ [32, 98, 121]).toArray⟩ from by
    rw [show (⟨#[32, 98, 121]⟩ : ByteArray) = ⟨[32, 98, 121].toArray⟩ from rfl, str_append])
  clear HRr HN1 k1 HXs HIX HK1 HL1
  generalize hPq : P ++ [32, 98, 121] = pq at *
  have hpq := congrArg List.length hPq
  simp only [List.length_append, List.length_cons, List.length_nil] at hpq
  go_wp2_with fail
  clear a0 a1 hPq
  go_loopg [3, 5] ys.length (fun gg s3 s wr => ∃ (i : Nat) (P : List UInt8), i + gg = ys.length ∧ s = .int .i64 i ∧ s3 = .string ⟨P.toArray⟩ ∧ Hid (P = pq ++ numsT (ys.take i)) ∧ Hid (Fr w wr [(w.heap.size, [.int .i64 k, .slice A xs.length c, .slice B ys.length d, .slice D qs.length e])]))
  case atStart => exact ⟨0, _, by omega, rfl, congrArg Value.string HS0.out, by show _ = _; simp [numsT], HF.out⟩
  case round =>
  clear HF HS0
  obtain ⟨i, P, hg, rfl, rfl, HP, HF⟩ := hrel
  have a2 := HF.out.cellN 0 rfl 2 rfl
  have hP := congrArg List.length HP.out
  have hPl := HL2.out i
  simp only [List.length_append, List.length_cons, List.length_nil] at hP
  by_cases hlt : i < ys.length
  · have hltz : (i : Int) < (ys.length : Int) := by omega
    have HS := Lib.hid (HK2.out i hlt)
    obtain ⟨ad, rfl, hcell⟩ := Knd.at_int HYs.out i hlt
    have hx := cell_below HF.out.bel hcell
    have hD := Lib.hid (fun (W : World) (hb : Below w.heap.size w W) => r24_decimal ys[i] (HIY.out _ (List.getElem_mem hlt)) W)
    have hpl := HL2.out (i + 1)
    rw [HS.out, List.length_append, List.length_cons] at hpl
    clear hcell
    generalize ys[i] = x at *
    generalize Lib.itoa x = tt9 at *
    go_wp2_with fail
    refine (hD.out _ HF.out.bel).mono ?_
    rintro e' W4 ⟨rfl, hb⟩
    replace HF := Lib.hid (HF.out.below hb)
    have HE := Lib.hid (show ((⟨P.toArray⟩ : ByteArray) ++ ⟨#[32]⟩) ++ ⟨tt9.toArray⟩ = ⟨(P ++ 32 :: tt9).toArray⟩ from by
      rw [show (⟨#[32]⟩ : ByteArray) = ⟨[32].toArray⟩ from rfl, str_append, str_append]; simp)
    have HN := Lib.hid (show P ++ 32 :: tt9 = pq ++ numsT (ys.take (i + 1)) from by rw [HS.out, HP.out]; simp)
    clear hb hD HS HP a2 hx
    go_wp2
    go_roundg (ys.length - (i + 1))
    case measure => omega
    case rel => exact ⟨i + 1, _, by omega, by go_num, congrArg Value.string HE.out, HN, HF⟩
  have hltz : ¬ (i : Int) < (ys.length : Int) := by omega
  have HN2 := Lib.hid (show P = pq ++ numsT ys from by rw [HP.out, List.take_of_length_le (by omega)])
  clear HP hPl hP
  have hPv := congrArg List.length HN2.out
  simp only [List.length_append] at hPv
  have hPw := HL2.out ys.length
  rw [List.take_of_length_le (Nat.le_refl _)] at hPw
  have HR3 := Lib.hid (show r = P ++ ratsT qs from by rw [HR2.out, HN2.out])
  clear HR2 HN2 HYs HIY HK2 HL2
  have hPg := Lib.hid (rfl : P = P)
  generalize hpz : P = pz at *
  have hpzl := congrArg List.length hpz
  clear hpz hPg
  go_wp2_with fail
  clear a2
  go_loopg [3, 6] qs.length (fun gg s3 s wr => ∃ (i : Nat) (P : List UInt8), i + gg = qs.length ∧ s = .int .i64 i ∧ s3 = .string ⟨P.toArray⟩ ∧ Hid (P = pz ++ ratsT (qs.take i)) ∧ Hid (Fr w wr [(w.heap.size, [.int .i64 k, .slice A xs.length c, .slice B ys.length d, .slice D qs.length e])]))
  case atStart => exact ⟨0, _, by omega, rfl, rfl, by show _ = _; simp [ratsT], HF.out⟩
  case round =>
  clear HF
  obtain ⟨i, P, hg, rfl, rfl, HP, HF⟩ := hrel
  have a3 := HF.out.cellN 0 rfl 3 rfl
  have hP := congrArg List.length HP.out
  have hPl := HL3.out i
  simp only [List.length_append, List.length_cons, List.length_nil] at hP
  by_cases hlt : i < qs.length
  · have hltz : (i : Int) < (qs.length : Int) := by omega
    have HS := Lib.hid (HK3.out i hlt)
    obtain ⟨ad, B9, c9, D9, d9, rfl, p0, p1, p2, hq, l1, l2⟩ := HQ.out i hlt
    have x0 := cell_below HF.out.bel p0
    have x1 := cell_below HF.out.bel p1
    have x2 := cell_below HF.out.bel p2
    have hD := Lib.hid (fun (W : World) (hb : Below w.heap.size w W) => r3_Text qs[i].1.1 B9 c9 qs[i].1.2 D9 d9 qs[i].2 W (hq.num.below hb) (by omega) (hq.den.below hb) (by omega))
    rw [show rv qs[i].1.1 qs[i].1.2 qs[i].2 = rq qs[i] from rfl] at hD
    have hpl := HL3.out (i + 1)
    rw [HS.out, List.length_append, List.length_cons] at hpl
    clear p0 p1 p2 hq
    generalize qs[i] = q at *
    generalize tq (rq q) = tt9 at *
    go_wp2_with fail
    refine (hD.out _ HF.out.bel).mono ?_
    rintro e' W4 ⟨rfl, hb⟩
    replace HF := Lib.hid (HF.out.below hb)
    have HE := Lib.hid (show ((⟨P.toArray⟩ : ByteArray) ++ ⟨#[32]⟩) ++ ⟨tt9.toArray⟩ = ⟨(P ++ 32 :: tt9).toArray⟩ from by
      rw [show (⟨#[32]⟩ : ByteArray) = ⟨[32].toArray⟩ from rfl, str_append, str_append]; simp)
    have HN := Lib.hid (show P ++ 32 :: tt9 = pz ++ ratsT (qs.take (i + 1)) from by rw [HS.out, HP.out]; simp)
    clear hb hD HS HP a3 x0 x1 x2
    go_wp2
    go_roundg (qs.length - (i + 1))
    case measure => omega
    case rel => exact ⟨i + 1, _, by omega, by go_num, congrArg Value.string HE.out, HN, HF⟩
  have hltz : ¬ (i : Int) < (qs.length : Int) := by omega
  have HN3 := Lib.hid (show P = pz ++ ratsT qs from by rw [HP.out, List.take_of_length_le (by omega)])
  clear HP hPl hP
  have HX := Lib.hid (show P = r from by rw [HN3.out, HR3.out])
  clear HN3 HR3 HQ
  go_wp2
  go_ret
  exact ⟨congrArg (fun l : List UInt8 => Ending.returned (Value.string ⟨l.toArray⟩)) HX.out, HF.out.bel⟩
end Go.Proofs.YtidgpkccjcddgaaGreatDoor.F
/- Names as hexadecimal digits: the reference's hex. No condition but a length. -/
namespace Go.Proofs.YtidgpkccjcddgaaGreatDoor.F
open Go.RowKit Go.Shelf Go.Proofs.YtidgpkccjcddgaaGreatDoorW.PrintLast
theorem hx_at : ∀ k : Nat, k < 16 → ∀ h, (⟨#[48, 49, 50, 51, 52, 53, 54, 55, 56, 57, 97, 98, 99, 100, 101, 102]⟩ : ByteArray)[k]'h = hx k := by
  intro k hk h
  have : ∀ k : Fin 16, (#[48, 49, 50, 51, 52, 53, 54, 55, 56, 57, 97, 98, 99, 100, 101, 102] : Array UInt8)[k.val]'(k.isLt) = hx k.val := by decide
  exact this ⟨k, hk⟩
theorem and15 : ∀ n : Nat, n < 256 → bits BinOp.and IntKind.u8 (n : Int) 15 = ((n % 16 : Nat) : Int) := by decide +kernel
theorem hex_facts (b : UInt8) : ∃ k1 k2 : Nat, k1 < 16 ∧ k2 < 16 ∧ (b.toNat : Int) / 16 = (k1 : Int) ∧ bits BinOp.and IntKind.u8 (b.toNat : Int) 15 = (k2 : Int) ∧ hxB b = [hx k1, hx k2] := by
  have := b.toNat_lt
  exact ⟨b.toNat / 16, b.toNat % 16, by omega, by omega, by omega, and15 _ this, rfl⟩
theorem src_two {w : World} {g : Nat} {y1 y2 : UInt8} (h : Own w g [.int .u8 (y1.toNat : Int), .int .u8 (y2.toNat : Int)]) : Src Tryz.prog w 89 (.slice (some ⟨g, 0, none⟩) 2 2) [y1, y2] :=
  Src.row (e := 5) rfl Tryz.underlying89 fun j u hj => by
    have hlt := (List.getElem?_eq_some_iff.1 hj).1
    rw [show (⟨g, 0, none⟩ : Addr).add j = ⟨g, j, none⟩ from by unfold Addr.add; split <;> simp_all]
    have h1 := h.cell j (by simpa [bc] using hlt)
    rw [h1, ← hj, List.getElem?_eq_getElem hlt]
    rfl
set_option maxHeartbeats 2000000 in
set_option maxRecDepth 100000 in
theorem r24_hex (nm : ByteArray) (hn : nm.size ≤ 1099511627776) (w : World) :
    Calls Tryz.prog 114 #[.string nm] w fun e w' => e = .returned (.string ⟨(hexN nm.data.toList).toArray⟩) ∧ Below w.heap.size w w' := by
  have hsz : nm.data.toList.length = nm.size := Array.length_toList
  have HG := Lib.hid (fun (i : Nat) (h : i < nm.size) => show nm[i] = nm.data.toList[i]'(by omega) from rfl)
  have HLn := Lib.hid (fun (i : Nat) => show (hexN (nm.data.toList.take i)).length ≤ 2 * nm.size from by rw [hexN_len, List.length_take]; omega)
  go_enter Tryz.func114, Tryz.ntmps114
  go_wp2
  go_loopg [4, 5] nm.size (fun gg s4 s5 wr => ∃ (i : Nat) (v : Value), i + gg = nm.size ∧ s5 = .int .i64 i ∧ s4 = v ∧ Hid (OwnB wr w.heap.size 5 v (hexN (nm.data.toList.take i))) ∧ Hid (Below w.heap.size w wr))
  case atStart => exact ⟨0, _, by omega, rfl, rfl, OwnB.nil _ _ _, Below.refl _ _⟩
  case round =>
    obtain ⟨i, v, hg, rfl, rfl, HO, HB⟩ := hrel
    by_cases hlt : i < nm.size
    · have hltz : (i : Int) < (nm.size : Int) := by omega
      have hb := HG.out i hlt
      have hln := HLn.out i
      have HS := Lib.hid (show hexN (nm.data.toList.take (i + 1)) = hexN (nm.data.toList.take i) ++ hxB (nm.data.toList[i]'(by omega)) from by rw [List.take_succ_eq_append_getElem (by omega), hexN_snoc])
      generalize hB0 : nm.data.toList[i]'(by omega) = b at *
      clear hB0
      obtain ⟨k1, k2, hk1, hk2, hd1, hd2, hx0⟩ := hex_facts b
      rw [hx0] at HS
      have hk1z : (k1 : Int) < 16 := by omega
      have hk2z : (k2 : Int) < 16 := by omega
      have e1 := hx_at k1 hk1 hk1
      have e2 := hx_at k2 hk2 hk2
      clear hx0
      generalize hx k1 = y1 at *
      generalize hx k2 = y2 at *
      generalize hP : hexN (nm.data.toList.take i) = P at *
      have hPl := congrArg List.length hP
      clear hP
      go_wp2_with fail
      have HF := Lib.hid (show Fr w wr [] from ⟨HB.out, fun p hp => by cases hp⟩)
      clear HB
      generalize wr = W at HF HO ⊢
      replace HO := Lib.hid (HO.out.below (Below.drew (Below.refl _ _)))
      have HF_ := Lib.hid HF.out.drew
      clear HF
      have HF := HF_
      clear HF_
      refine start_ (n := 16) (S := fun w' => True) (ds := [14]) #[false, false, false, false, false, false, false, false, false, false, false, false, false, false, false, false] (by kernel_rfl) rfl rfl trivial (fun hHeld => ?_)
      generalize World.drew _ = W at *
      refine pu_ (v := ?_) (a' := ?_) 0 (some 12) rfl rfl ?_ ?_ ?_
      rotate_left; · intro w'; go_simp; with_reducible rfl
      rotate_left; · simp only [Act.put, s1, s2, s3]; rfl
      refine pu_ (v := ?_) (a' := ?_) 1 (some 13) rfl rfl ?_ ?_ ?_
      rotate_left; · intro w'; go_simp; with_reducible rfl
      rotate_left; · simp only [Act.put, s1, s2, s3]; rfl
      refine pu_ (v := ?_) (a' := ?_) 2 (some 14) rfl rfl ?_ ?_ ?_
      rotate_left; · intro w'; go_simp; with_reducible rfl
      rotate_left; · simp only [Act.put, s1, s2, s3]; rfl
      refine pu_ (v := ?_) (a' := ?_) 3 (some 15) rfl rfl ?_ ?_ ?_
      rotate_left; · intro w'; go_simp; with_reducible rfl
      rotate_left; · simp only [Act.put, s1, s2, s3]; rfl
      refine pu_ (v := ?_) (a' := ?_) 4 (some 16) rfl rfl ?_ ?_ ?_
      rotate_left; · intro w'; go_simp; with_reducible rfl
      rotate_left; · simp only [Act.put, s1, s2, s3]; rfl
      refine pu_ (v := ?_) (a' := ?_) 5 (some 17) rfl rfl ?_ ?_ ?_
      rotate_left; · intro w'; go_simp; with_reducible rfl
      rotate_left; · simp only [Act.put, s1, s2, s3]; rfl
      refine pu_ (v := ?_) (a' := ?_) 6 (some 18) rfl rfl ?_ ?_ ?_
      rotate_left; · intro w'; go_simp; with_reducible rfl
      rotate_left; · simp only [Act.put, s1, s2, s3]; rfl
      refine pu_ (v := ?_) (a' := ?_) 7 (some 19) rfl rfl ?_ ?_ ?_
      rotate_left; · intro w'; go_simp; with_reducible rfl
      rotate_left; · simp only [Act.put, s1, s2, s3]; rfl
      refine pu_ (v := ?_) (a' := ?_) 8 (some 20) rfl rfl ?_ ?_ ?_
      rotate_left; · intro w'; go_simp; with_reducible rfl
      rotate_left; · simp only [Act.put, s1, s2, s3]; rfl
      refine pu_ (v := ?_) (a' := ?_) 9 (some 21) rfl rfl ?_ ?_ ?_
      rotate_left; · intro w'; go_simp; with_reducible rfl
      rotate_left; · simp only [Act.put, s1, s2, s3]; rfl
      refine pu_ (v := ?_) (a' := ?_) 10 (some 22) rfl rfl ?_ ?_ ?_
      rotate_left; · intro w'; go_simp; with_reducible rfl
      rotate_left; · simp only [Act.put, s1, s2, s3]; rfl
      refine pu_ (v := ?_) (a' := ?_) 11 (some 23) rfl rfl ?_ ?_ ?_
      rotate_left; · intro w'; go_simp; with_reducible rfl
      rotate_left; · simp only [Act.put, s1, s2, s3]; rfl
      refine pu_ (v := ?_) (a' := ?_) 12 (some 24) rfl rfl ?_ ?_ ?_
      rotate_left; · intro w'; go_simp; with_reducible rfl
      rotate_left; · simp only [Act.put, s1, s2, s3]; rfl
      refine on_ 13 (N := (some 25)) rfl rfl (fun K hK => ?_)
      refine value_ (v := ?_) (w1 := ?_) (by rfl) rfl ?_ ?_
      rotate_left
      rotate_left
      · go_simp
        first | rfl | (refine ⟨?_, ?_⟩ <;> rfl)
      have hal := Lib.hid ((Below.refl _ W).alloc (Nat.le_refl _) (.cells #[.int .u8 (y1.toNat : Int), .int .u8 (y2.toNat : Int)] 5))
      replace HO := Lib.hid (HO.out.below hal.out)
      have hwsz : w.heap.size ≤ (W).heap.size := HF.out.bel.size
      have hown := Lib.hid (Own.mk (w := W) [.int .u8 (y1.toNat : Int), .int .u8 (y2.toNat : Int)] 5)
      replace HF := Lib.hid (HF.out.below hal.out)
      clear hal
      refine hK.out _ _ trivial (fun hHeld => ?_)
      clear hK K
      refine norm_ (a' := ?_) ?_ ?_
      rotate_left
      · show Act.put _ (some 25) _ = _
        simp only [Act.put, s1, s2, s3]; rfl
      refine ls_ 14 (N := (some 26)) rfl rfl (fun K hK => ?_)
      obtain ⟨v_, W1, hpush, hO', hS'⟩ := pushB (t := 89) (u := 89) (ty := 89) (x := .slice (some ⟨(W).heap.size, 0, none⟩) 2 2) Tryz.underlying89 infoByte HO.out (m := [y1, y2]) (src_two hown.out) (by simp only [List.length_cons, List.length_nil]; omega) (by simp; omega)
      refine push_ (by rfl) rfl rfl rfl rfl hpush ?_
      clear hpush
      rw [← HS.out] at hO'
      have HO2 := Lib.hid hO'
      have HB2 := Lib.hid (HF.out.bel.trans hS'.below)
      clear hO' hS' HO HF hown
      refine hK.out _ _ ?_
      clear hK K
      refine norm_ (a' := ?_) ?_ ?_
      rotate_left
      · show Act.put _ (some 26) _ = _
        simp only [Act.put, s1, s2, s3]; rfl
      refine pu_ (v := ?_) (a' := ?_) 15 (some 4) rfl rfl ?_ ?_ ?_
      rotate_left; · intro w'; go_simp; with_reducible rfl
      rotate_left; · simp only [Act.put, s1, s2, s3]; rfl
      refine done_ (by kernel_rfl) ?_
      clear HS
      go_wp2
      go_roundg (nm.size - (i + 1))
      case measure => omega
      case rel => exact ⟨i + 1, _, by omega, by go_num, rfl, HO2, HB2⟩
    · have hltz : ¬ (i : Int) < (nm.size : Int) := by omega
      have HE := Lib.hid (show hexN (nm.data.toList.take i) = hexN nm.data.toList from by rw [List.take_of_length_le (by omega)])
      rw [HE.out] at HO
      have hst := HO.out.str (P := Tryz.prog) (src := 89) (dst := 9) Tryz.underlying89 Tryz.underlying5 Tryz.underlying9
      clear HE HO HG HLn
      go_wp2
      go_ret
      exact ⟨rfl, HB.out⟩
end Go.Proofs.YtidgpkccjcddgaaGreatDoor.F
/- An atom's line: the program's and the reference's. Condition: atoms of weight at most 1048576, names of at most 1048576 bytes. -/
namespace Go.Proofs.YtidgpkccjcddgaaGreatDoor.F
open Go.RowKit Go.Shelf Go.Proofs.YtidgpkccjcddgaaGreatDoorW.PrintLast
theorem enc_hx (k : Nat) (hk : k < 16) : Utf8.encode ((hx k).toNat : Int) = ⟨#[hx k]⟩ := by
  have : ∀ k : Fin 16, Utf8.encode ((hx k.val).toNat : Int) = ⟨#[hx k.val]⟩ := by decide
  exact this ⟨k, hk⟩
set_option maxHeartbeats 2000000 in
set_option maxRecDepth 100000 in
theorem pr_atomText (a : AtomD) (A : Option Addr) (c : Nat) (B : Option Addr) (d : Nat) (D : Option Addr) (e : Nat) (w : World) (h : AtIn w a A c B d D e) (hn : a.1.1.1.size ≤ 1048576) :
    Calls Tryz.prog 48 #[.agg (atc a A c B d D e).toArray] w fun e' w' => e' = .returned (.string ⟨(lnA a).toArray⟩) ∧ Below w.heap.size w w' := by
  have hl := h.lens
  obtain ⟨tx1, tx2, tx3⟩ := h.tx
  have hT := Lib.hid (fun (W : World) (hb : Below w.heap.size w W) => linear_Text A c a.1.1.2 W (h.raw.below hb) tx1)
  have hR := Lib.hid (fun (W : World) (hb : Below w.heap.size w W) => ratio_Text a.1.2.1.1 B d a.1.2.1.2 D e a.1.2.2 W (h.bound.num.below hb) (by omega) (h.bound.den.below hb) (by omega))
  clear h hl tx1
  obtain ⟨r, hr⟩ : ∃ r, r = lnA a := ⟨_, rfl⟩
  rw [← hr]
  unfold lnA at hr
  unfold atc
  obtain ⟨⟨⟨nm, f⟩, ⟨⟨s, xs⟩, ys⟩⟩, st⟩ := a
  have hrv : rv s xs ys = rq ((s, xs), ys) := rfl
  dsimp only at *
  rw [hrv] at hR
  clear hrv
  generalize tf (nform (fval f)) = tx at *
  generalize tq (rq ((s, xs), ys)) = ty at *
  have HRr := Lib.hid hr
  clear hr
  have HF := Lib.hid ((Fr.refl w).box [.string nm, .slice A f.length c, .bool s, .slice B xs.length d, .slice D ys.length e, .bool st] 98)
  generalize f.length = n1 at *
  generalize xs.length = n2 at *
  generalize ys.length = n3 at *
  simp only [List.toArray] at *
  by_cases hn0 : nm.data = #[]
  · rw [if_pos hn0] at HRr
    obtain ⟨dn⟩ := nm
    dsimp only at hn0
    subst hn0
    by_cases h0 : n1 = 0
    · subst h0
      have HX := Lib.hid (show (⟨#[116, 114, 117, 101]⟩ : ByteArray) = ⟨r.toArray⟩ from by rw [HRr.out]; rfl)
      clear HRr hT hR
      go_enter Tryz.func48, Tryz.ntmps48
      go_wp2
      go_ret
      exact ⟨congrArg (fun x => Ending.returned (Value.string x)) HX.out, HF.out.bel⟩
    · have h0b : ((n1 : Int) == 0) = false := by rw [beq_eq_false_iff_ne]; omega
      rw [if_neg h0] at HRr
      cases st with
      | true =>
        have HX := Lib.hid (show (((⟨#[60, 32]⟩ : ByteArray) ++ ⟨tx.toArray⟩) ++ ⟨#[32]⟩) ++ ⟨ty.toArray⟩ = ⟨r.toArray⟩ from by
          rw [HRr.out, show (⟨#[60, 32]⟩ : ByteArray) = ⟨[60, 32].toArray⟩ from rfl, show (⟨#[32]⟩ : ByteArray) = ⟨[32].toArray⟩ from rfl, str_append, str_append, str_append]
          simp)
        clear HRr
        go_enter Tryz.func48, Tryz.ntmps48
        go_upto_region 12 with fail
        generalize World.alloc _ _ = W at HF ⊢
        have HF_ := Lib.hid HF.out.drew
        clear HF
        have HF := HF_
        clear HF_
        refine start_ (n := 12) (S := fun w' => w'.cell? ⟨w.heap.size, 0, none⟩ = some (.string ⟨#[]⟩) ∧ w'.cell? ⟨w.heap.size, 1, none⟩ = some (.slice A n1 c) ∧ w'.cell? ⟨w.heap.size, 2, none⟩ = some (.bool s) ∧ w'.cell? ⟨w.heap.size, 3, none⟩ = some (.slice B n2 d) ∧ w'.cell? ⟨w.heap.size, 4, none⟩ = some (.slice D n3 e) ∧ w'.cell? ⟨w.heap.size, 5, none⟩ = some (.bool true)) (ds := []) #[false, false, false, false, false, false, false, false, false, false, false, false] (by kernel_rfl) rfl rfl ⟨HF.out.cellN 0 rfl 0 rfl, HF.out.cellN 0 rfl 1 rfl, HF.out.cellN 0 rfl 2 rfl, HF.out.cellN 0 rfl 3 rfl, HF.out.cellN 0 rfl 4 rfl, HF.out.cellN 0 rfl 5 rfl⟩ (fun hHeld => ?_)
        generalize World.drew _ = W at *
        refine pu_ (v := ?_) (a' := ?_) 0 (some 48) rfl rfl ?_ ?_ ?_
        rotate_left; · intro w'; go_simp; with_reducible rfl
        rotate_left; · simp only [Act.put, s1, s2, s3]; rfl
        refine pu_ (v := ?_) (a' := ?_) 1 (some 49) rfl rfl ?_ ?_ ?_
        rotate_left; · intro w'; go_simp; with_reducible rfl
        rotate_left; · simp only [Act.put, s1, s2, s3]; rfl
        refine pu_ (v := ?_) (a' := ?_) 6 (some 54) rfl rfl ?_ ?_ ?_
        rotate_left; · intro w'; go_simp; with_reducible rfl
        rotate_left; · simp only [Act.put, s1, s2, s3]; rfl
        refine pu_ (v := ?_) (a' := ?_) 7 (some 55) rfl rfl ?_ ?_ ?_
        rotate_left; · intro w'; go_simp; with_reducible rfl
        rotate_left; · simp only [Act.put, s1, s2, s3]; rfl
        refine tk_ (v := ?_) (a' := ?_) 2 (some 50) rfl rfl ?_ hHeld ?_ ?_
        rotate_left
        · rintro w' ⟨s0, s1, s2, s3, s4, s5⟩; go_simp; with_reducible rfl
        rotate_left; · simp only [Act.put, s1, s2, s3]; rfl
        refine tk_ (v := ?_) (a' := ?_) 8 (some 56) rfl rfl ?_ hHeld ?_ ?_
        rotate_left
        · rintro w' ⟨s0, s1, s2, s3, s4, s5⟩; go_simp; with_reducible rfl
        rotate_left; · simp only [Act.put, s1, s2, s3]; rfl
        refine on_ 3 (N := (some 51)) rfl rfl (fun K hK => ?_)
        refine goes_ Tryz.func17 (by kernel_rfl) rfl #[.slice A n1 c] (by rfl) rfl rfl (by (try simp only [List.map_toArray, List.map_cons, List.map_nil]); first | done | rfl) ?_
        refine (hT.out W HF.out.bel).mono ?_
        rintro e W1 ⟨rfl, q1⟩
        refine ⟨_, rfl, ?_⟩
        replace HF := Lib.hid (HF.out.below q1)
        clear q1 hT
        refine hK.out _ _ ⟨HF.out.cellN 0 rfl 0 rfl, HF.out.cellN 0 rfl 1 rfl, HF.out.cellN 0 rfl 2 rfl, HF.out.cellN 0 rfl 3 rfl, HF.out.cellN 0 rfl 4 rfl, HF.out.cellN 0 rfl 5 rfl⟩ (fun hHeld => ?_)
        clear hK K
        refine norm_ (a' := ?_) ?_ ?_
        rotate_left
        · show Act.put _ (some 51) _ = _
          simp only [Act.put, s1, s2, s3]; rfl
        refine pu_ (v := ?_) (a' := ?_) 4 (some 52) rfl rfl ?_ ?_ ?_
        rotate_left; · intro w'; go_simp; first | with_reducible rfl | rw [if_neg (by omega)]
        rotate_left; · simp only [Act.put, s1, s2, s3]; rfl
        refine pu_ (v := ?_) (a' := ?_) 5 (some 53) rfl rfl ?_ ?_ ?_
        rotate_left; · intro w'; go_simp; first | with_reducible rfl | rw [if_neg (by omega)]
        rotate_left; · simp only [Act.put, s1, s2, s3]; rfl
        refine on_ 9 (N := (some 57)) rfl rfl (fun K hK => ?_)
        refine goes_ Tryz.func60 (by kernel_rfl) rfl #[.agg #[.bool s, .slice B n2 d, .slice D n3 e]] (by rfl) rfl rfl (by (try simp only [List.map_toArray, List.map_cons, List.map_nil]); first | done | rfl) ?_
        refine (hR.out W1 HF.out.bel).mono ?_
        rintro e W2 ⟨rfl, q1⟩
        refine ⟨_, rfl, ?_⟩
        replace HF := Lib.hid (HF.out.below q1)
        clear q1 hR
        refine hK.out _ _ ⟨HF.out.cellN 0 rfl 0 rfl, HF.out.cellN 0 rfl 1 rfl, HF.out.cellN 0 rfl 2 rfl, HF.out.cellN 0 rfl 3 rfl, HF.out.cellN 0 rfl 4 rfl, HF.out.cellN 0 rfl 5 rfl⟩ (fun hHeld => ?_)
        clear hK K
        refine norm_ (a' := ?_) ?_ ?_
        rotate_left
        · show Act.put _ (some 57) _ = _
          simp only [Act.put, s1, s2, s3]; rfl
        refine pu_ (v := ?_) (a' := ?_) 10 (some 58) rfl rfl ?_ ?_ ?_
        rotate_left; · intro w'; go_simp; first | with_reducible rfl | rw [if_neg (by omega)]
        rotate_left; · simp only [Act.put, s1, s2, s3]; rfl
        refine pu_ (v := ?_) (a' := ?_) 11 (some 2) rfl rfl ?_ ?_ ?_
        rotate_left; · intro w'; go_simp; with_reducible rfl
        rotate_left; · simp only [Act.put, s1, s2, s3]; rfl
        refine done_ (by kernel_rfl) ?_
        go_wp2
        go_ret
        exact ⟨congrArg (fun x => Ending.returned (Value.string x)) HX.out, HF.out.bel⟩
      | false =>
        have HX := Lib.hid (show (((⟨#[60, 61, 32]⟩ : ByteArray) ++ ⟨tx.toArray⟩) ++ ⟨#[32]⟩) ++ ⟨ty.toArray⟩ = ⟨r.toArray⟩ from by
          rw [HRr.out, show (⟨#[60, 61, 32]⟩ : ByteArray) = ⟨[60, 61, 32].toArray⟩ from rfl, show (⟨#[32]⟩ : ByteArray) = ⟨[32].toArray⟩ from rfl, str_append, str_append, str_append]
          simp)
        clear HRr
        go_enter Tryz.func48, Tryz.ntmps48
        go_upto_region 13 with fail
        generalize World.alloc _ _ = W at HF ⊢
        have HF_ := Lib.hid HF.out.drew
        clear HF
        have HF := HF_
        clear HF_
        refine start_ (n := 12) (S := fun w' => w'.cell? ⟨w.heap.size, 0, none⟩ = some (.string ⟨#[]⟩) ∧ w'.cell? ⟨w.heap.size, 1, none⟩ = some (.slice A n1 c) ∧ w'.cell? ⟨w.heap.size, 2, none⟩ = some (.bool s) ∧ w'.cell? ⟨w.heap.size, 3, none⟩ = some (.slice B n2 d) ∧ w'.cell? ⟨w.heap.size, 4, none⟩ = some (.slice D n3 e) ∧ w'.cell? ⟨w.heap.size, 5, none⟩ = some (.bool false)) (ds := []) #[false, false, false, false, false, false, false, false, false, false, false, false] (by kernel_rfl) rfl rfl ⟨HF.out.cellN 0 rfl 0 rfl, HF.out.cellN 0 rfl 1 rfl, HF.out.cellN 0 rfl 2 rfl, HF.out.cellN 0 rfl 3 rfl, HF.out.cellN 0 rfl 4 rfl, HF.out.cellN 0 rfl 5 rfl⟩ (fun hHeld => ?_)
        generalize World.drew _ = W at *
        refine pu_ (v := ?_) (a' := ?_) 0 (some 59) rfl rfl ?_ ?_ ?_
        rotate_left; · intro w'; go_simp; with_reducible rfl
        rotate_left; · simp only [Act.put, s1, s2, s3]; rfl
        refine pu_ (v := ?_) (a' := ?_) 1 (some 60) rfl rfl ?_ ?_ ?_
        rotate_left; · intro w'; go_simp; with_reducible rfl
        rotate_left; · simp only [Act.put, s1, s2, s3]; rfl
        refine pu_ (v := ?_) (a' := ?_) 6 (some 65) rfl rfl ?_ ?_ ?_
        rotate_left; · intro w'; go_simp; with_reducible rfl
        rotate_left; · simp only [Act.put, s1, s2, s3]; rfl
        refine pu_ (v := ?_) (a' := ?_) 7 (some 66) rfl rfl ?_ ?_ ?_
        rotate_left; · intro w'; go_simp; with_reducible rfl
        rotate_left; · simp only [Act.put, s1, s2, s3]; rfl
        refine tk_ (v := ?_) (a' := ?_) 2 (some 61) rfl rfl ?_ hHeld ?_ ?_
        rotate_left
        · rintro w' ⟨s0, s1, s2, s3, s4, s5⟩; go_simp; with_reducible rfl
        rotate_left; · simp only [Act.put, s1, s2, s3]; rfl
        refine tk_ (v := ?_) (a' := ?_) 8 (some 67) rfl rfl ?_ hHeld ?_ ?_
        rotate_left
        · rintro w' ⟨s0, s1, s2, s3, s4, s5⟩; go_simp; with_reducible rfl
        rotate_left; · simp only [Act.put, s1, s2, s3]; rfl
        refine on_ 3 (N := (some 62)) rfl rfl (fun K hK => ?_)
        refine goes_ Tryz.func17 (by kernel_rfl) rfl #[.slice A n1 c] (by rfl) rfl rfl (by (try simp only [List.map_toArray, List.map_cons, List.map_nil]); first | done | rfl) ?_
        refine (hT.out W HF.out.bel).mono ?_
        rintro e W1 ⟨rfl, q1⟩
        refine ⟨_, rfl, ?_⟩
        replace HF := Lib.hid (HF.out.below q1)
        clear q1 hT
        refine hK.out _ _ ⟨HF.out.cellN 0 rfl 0 rfl, HF.out.cellN 0 rfl 1 rfl, HF.out.cellN 0 rfl 2 rfl, HF.out.cellN 0 rfl 3 rfl, HF.out.cellN 0 rfl 4 rfl, HF.out.cellN 0 rfl 5 rfl⟩ (fun hHeld => ?_)
        clear hK K
        refine norm_ (a' := ?_) ?_ ?_
        rotate_left
        · show Act.put _ (some 62) _ = _
          simp only [Act.put, s1, s2, s3]; rfl
        refine pu_ (v := ?_) (a' := ?_) 4 (some 63) rfl rfl ?_ ?_ ?_
        rotate_left; · intro w'; go_simp; first | with_reducible rfl | rw [if_neg (by omega)]
        rotate_left; · simp only [Act.put, s1, s2, s3]; rfl
        refine pu_ (v := ?_) (a' := ?_) 5 (some 64) rfl rfl ?_ ?_ ?_
        rotate_left; · intro w'; go_simp; first | with_reducible rfl | rw [if_neg (by omega)]
        rotate_left; · simp only [Act.put, s1, s2, s3]; rfl
        refine on_ 9 (N := (some 68)) rfl rfl (fun K hK => ?_)
        refine goes_ Tryz.func60 (by kernel_rfl) rfl #[.agg #[.bool s, .slice B n2 d, .slice D n3 e]] (by rfl) rfl rfl (by (try simp only [List.map_toArray, List.map_cons, List.map_nil]); first | done | rfl) ?_
        refine (hR.out W1 HF.out.bel).mono ?_
        rintro e W2 ⟨rfl, q1⟩
        refine ⟨_, rfl, ?_⟩
        replace HF := Lib.hid (HF.out.below q1)
        clear q1 hR
        refine hK.out _ _ ⟨HF.out.cellN 0 rfl 0 rfl, HF.out.cellN 0 rfl 1 rfl, HF.out.cellN 0 rfl 2 rfl, HF.out.cellN 0 rfl 3 rfl, HF.out.cellN 0 rfl 4 rfl, HF.out.cellN 0 rfl 5 rfl⟩ (fun hHeld => ?_)
        clear hK K
        refine norm_ (a' := ?_) ?_ ?_
        rotate_left
        · show Act.put _ (some 68) _ = _
          simp only [Act.put, s1, s2, s3]; rfl
        refine pu_ (v := ?_) (a' := ?_) 10 (some 69) rfl rfl ?_ ?_ ?_
        rotate_left; · intro w'; go_simp; first | with_reducible rfl | rw [if_neg (by omega)]
        rotate_left; · simp only [Act.put, s1, s2, s3]; rfl
        refine pu_ (v := ?_) (a' := ?_) 11 (some 2) rfl rfl ?_ ?_ ?_
        rotate_left; · intro w'; go_simp; with_reducible rfl
        rotate_left; · simp only [Act.put, s1, s2, s3]; rfl
        refine done_ (by kernel_rfl) ?_
        go_wp2
        go_ret
        exact ⟨congrArg (fun x => Ending.returned (Value.string x)) HX.out, HF.out.bel⟩
  · rw [if_neg hn0] at HRr
    have hne : nm.toList.isEmpty = false := by rw [Lib.toList_data]; simpa using hn0
    have hsz : nm.data.toList.length = nm.size := Array.length_toList
    have HG := Lib.hid (fun (i : Nat) (h : i < nm.size) => show nm[i] = nm.data.toList[i]'(by omega) from rfl)
    have HLn := Lib.hid (fun (i : Nat) => show (hexN (nm.data.toList.take i)).length ≤ 2 * nm.size from by rw [hexN_len, List.length_take]; omega)
    clear hn0 hT hR
    go_enter Tryz.func48, Tryz.ntmps48
    go_upto_region 3 with fail
    generalize World.alloc _ _ = W at HF ⊢
    have a0 := HF.out.cellN 0 rfl 0 rfl
    clear hne
    go_wp2_with fail
    clear a0
    go_loopg [3, 14] nm.size (fun gg s3 s14 wr => ∃ (i : Nat) (P : List UInt8), i + gg = nm.size ∧ s14 = .int .i64 i ∧ s3 = .string ⟨P.toArray⟩ ∧ Hid (P = [98, 111, 111, 108, 32] ++ hexN (nm.data.toList.take i)) ∧ Hid (Fr w wr [(w.heap.size, [.string nm, .slice A n1 c, .bool s, .slice B n2 d, .slice D n3 e, .bool st])]))
    case atStart => exact ⟨0, _, by omega, rfl, rfl, by show _ = _; rfl, HF.out⟩
    case round =>
    clear HF
    obtain ⟨i, P, hg, rfl, rfl, HP, HF⟩ := hrel
    by_cases hlt : i < nm.size
    · have hltz : (i : Int) < (nm.size : Int) := by omega
      have hb := HG.out i hlt
      have hln := HLn.out i
      have HS := Lib.hid (show hexN (nm.data.toList.take (i + 1)) = hexN (nm.data.toList.take i) ++ hxB (nm.data.toList[i]'(by omega)) from by rw [List.take_succ_eq_append_getElem (by omega), hexN_snoc])
      generalize hB0 : nm.data.toList[i]'(by omega) = b at *
      clear hB0
      obtain ⟨k1, k2, hk1, hk2, hd1, hd2, hx0⟩ := hex_facts b
      rw [hx0] at HS
      have hk1z : (k1 : Int) < 16 := by omega
      have hk2z : (k2 : Int) < 16 := by omega
      have e1 := hx_at k1 hk1 hk1
      have e2 := hx_at k2 hk2 hk2
      have u1 := enc_hx k1 hk1
      have u2 := enc_hx k2 hk2
      clear hx0
      generalize hx k1 = y1 at *
      generalize hx k2 = y2 at *
      have hPl := congrArg List.length HP.out
      simp only [List.length_append, List.length_cons, List.length_nil] at hPl
      go_wp2_with fail
      generalize wr = W at HF ⊢
      have HF_ := Lib.hid HF.out.drew
      clear HF
      have HF := HF_
      clear HF_
      refine start_ (n := 20) (S := fun w' => w'.cell? ⟨w.heap.size, 0, none⟩ = some (.string nm) ∧ w'.cell? ⟨w.heap.size, 1, none⟩ = some (.slice A n1 c) ∧ w'.cell? ⟨w.heap.size, 2, none⟩ = some (.bool s) ∧ w'.cell? ⟨w.heap.size, 3, none⟩ = some (.slice B n2 d) ∧ w'.cell? ⟨w.heap.size, 4, none⟩ = some (.slice D n3 e) ∧ w'.cell? ⟨w.heap.size, 5, none⟩ = some (.bool st)) (ds := []) #[false, false, false, false, false, false, false, false, false, false, false, false, false, false, false, false, false, false, false, false] (by kernel_rfl) rfl rfl ⟨HF.out.cellN 0 rfl 0 rfl, HF.out.cellN 0 rfl 1 rfl, HF.out.cellN 0 rfl 2 rfl, HF.out.cellN 0 rfl 3 rfl, HF.out.cellN 0 rfl 4 rfl, HF.out.cellN 0 rfl 5 rfl⟩ (fun hHeld => ?_)
      generalize World.drew _ = W at *
      refine pu_ (v := ?_) (a' := ?_) 0 (some 17) rfl rfl ?_ ?_ ?_
      rotate_left; · intro w'; go_simp; with_reducible rfl
      rotate_left; · simp only [Act.put, s1, s2, s3]; rfl
      refine pu_ (v := ?_) (a' := ?_) 1 (some 18) rfl rfl ?_ ?_ ?_
      rotate_left; · intro w'; go_simp; with_reducible rfl
      rotate_left; · simp only [Act.put, s1, s2, s3]; rfl
      refine pu_ (v := ?_) (a' := ?_) 2 (some 19) rfl rfl ?_ ?_ ?_
      rotate_left; · intro w'; go_simp; with_reducible rfl
      rotate_left; · simp only [Act.put, s1, s2, s3]; rfl
      refine pu_ (v := ?_) (a' := ?_) 4 (some 21) rfl rfl ?_ ?_ ?_
      rotate_left; · intro w'; go_simp; with_reducible rfl
      rotate_left; · simp only [Act.put, s1, s2, s3]; rfl
      refine pu_ (v := ?_) (a' := ?_) 9 (some 26) rfl rfl ?_ ?_ ?_
      rotate_left; · intro w'; go_simp; with_reducible rfl
      rotate_left; · simp only [Act.put, s1, s2, s3]; rfl
      refine pu_ (v := ?_) (a' := ?_) 10 (some 27) rfl rfl ?_ ?_ ?_
      rotate_left; · intro w'; go_simp; with_reducible rfl
      rotate_left; · simp only [Act.put, s1, s2, s3]; rfl
      refine pu_ (v := ?_) (a' := ?_) 12 (some 29) rfl rfl ?_ ?_ ?_
      rotate_left; · intro w'; go_simp; with_reducible rfl
      rotate_left; · simp only [Act.put, s1, s2, s3]; rfl
      refine tk_ (v := ?_) (a' := ?_) 3 (some 20) rfl rfl ?_ hHeld ?_ ?_
      rotate_left
      · rintro w' ⟨s0, s1, s2, s3, s4, s5⟩; go_simp; with_reducible rfl
      rotate_left; · simp only [Act.put, s1, s2, s3]; rfl
      refine pu_ (v := ?_) (a' := ?_) 5 (some 22) rfl rfl ?_ ?_ ?_
      rotate_left; · intro w'; go_simp; with_reducible rfl
      rotate_left; · simp only [Act.put, s1, s2, s3]; rfl
      refine pu_ (v := ?_) (a' := ?_) 6 (some 23) rfl rfl ?_ ?_ ?_
      rotate_left; · intro w'; go_simp; with_reducible rfl
      rotate_left; · simp only [Act.put, s1, s2, s3]; rfl
      refine pu_ (v := ?_) (a' := ?_) 7 (some 24) rfl rfl ?_ ?_ ?_
      rotate_left; · intro w'; go_simp; with_reducible rfl
      rotate_left; · simp only [Act.put, s1, s2, s3]; rfl
      refine pu_ (v := ?_) (a' := ?_) 8 (some 25) rfl rfl ?_ ?_ ?_
      rotate_left; · intro w'; go_simp; with_reducible rfl
      rotate_left; · simp only [Act.put, s1, s2, s3]; rfl
      refine tk_ (v := ?_) (a' := ?_) 11 (some 28) rfl rfl ?_ hHeld ?_ ?_
      rotate_left
      · rintro w' ⟨s0, s1, s2, s3, s4, s5⟩; go_simp; with_reducible rfl
      rotate_left; · simp only [Act.put, s1, s2, s3]; rfl
      refine pu_ (v := ?_) (a' := ?_) 13 (some 30) rfl rfl ?_ ?_ ?_
      rotate_left; · intro w'; go_simp; with_reducible rfl
      rotate_left; · simp only [Act.put, s1, s2, s3]; rfl
      refine pu_ (v := ?_) (a' := ?_) 14 (some 31) rfl rfl ?_ ?_ ?_
      rotate_left; · intro w'; go_simp; with_reducible rfl
      rotate_left; · simp only [Act.put, s1, s2, s3]; rfl
      refine pu_ (v := ?_) (a' := ?_) 15 (some 32) rfl rfl ?_ ?_ ?_
      rotate_left; · intro w'; go_simp; with_reducible rfl
      rotate_left; · simp only [Act.put, s1, s2, s3]; rfl
      refine pu_ (v := ?_) (a' := ?_) 16 (some 33) rfl rfl ?_ ?_ ?_
      rotate_left; · intro w'; go_simp; with_reducible rfl
      rotate_left; · simp only [Act.put, s1, s2, s3]; rfl
      refine pu_ (v := ?_) (a' := ?_) 17 (some 34) rfl rfl ?_ ?_ ?_
      rotate_left; · intro w'; go_simp; first | with_reducible rfl | rw [if_neg (by omega)]
      rotate_left; · simp only [Act.put, s1, s2, s3]; rfl
      refine pu_ (v := ?_) (a' := ?_) 18 (some 35) rfl rfl ?_ ?_ ?_
      rotate_left; · intro w'; go_simp; first | with_reducible rfl | rw [if_neg (by omega)]
      rotate_left; · simp only [Act.put, s1, s2, s3]; rfl
      refine pu_ (v := ?_) (a' := ?_) 19 (some 3) rfl rfl ?_ ?_ ?_
      rotate_left; · intro w'; go_simp; with_reducible rfl
      rotate_left; · simp only [Act.put, s1, s2, s3]; rfl
      refine done_ (by kernel_rfl) ?_
      have HE := Lib.hid (show (⟨P.toArray⟩ : ByteArray) ++ ((⟨#[y1]⟩ : ByteArray) ++ ⟨#[y2]⟩) = ⟨(P ++ [y1, y2]).toArray⟩ from by
        rw [show (⟨#[y1]⟩ : ByteArray) = ⟨[y1].toArray⟩ from rfl, show (⟨#[y2]⟩ : ByteArray) = ⟨[y2].toArray⟩ from rfl, str_append, str_append]; rfl)
      have HN := Lib.hid (show P ++ [y1, y2] = [98, 111, 111, 108, 32] ++ hexN (nm.data.toList.take (i + 1)) from by rw [HS.out, HP.out]; simp)
      clear HS HP hb hd1 hd2 e1 e2 u1 u2
      go_wp2
      go_roundg (nm.size - (i + 1))
      case measure => omega
      case rel => exact ⟨i + 1, _, by omega, by go_num, congrArg Value.string HE.out, HN, HF⟩
    · have hltz : ¬ (i : Int) < (nm.size : Int) := by omega
      have HN := Lib.hid (show P = r from by rw [HP.out, HRr.out, List.take_of_length_le (by omega)])
      clear HP HG HLn HRr
      go_wp2
      go_ret
      exact ⟨congrArg (fun l : List UInt8 => Ending.returned (Value.string ⟨l.toArray⟩)) HN.out, HF.out.bel⟩
set_option maxHeartbeats 2000000 in
set_option maxRecDepth 100000 in
theorem r24_atomLine (first : Bool) (a : AtomD) (A : Option Addr) (c : Nat) (B : Option Addr) (d : Nat) (D : Option Addr) (e : Nat) (w : World) (h : AtIn w a A c B d D e) (hn : a.1.1.1.size ≤ 1048576) :
    Calls Tryz.prog 53 #[.agg (atc a A c B d D e).toArray, .bool first] w fun e' w' => e' = .returned (.string ⟨(lnAr a first).toArray⟩) ∧ Below w.heap.size w w' := by
  have hl := h.lens
  obtain ⟨tx1, tx2, tx3⟩ := h.tx
  have hT := Lib.hid (fun (W : World) (hb : Below w.heap.size w W) => r6_Text A c a.1.1.2 W (h.raw.below hb) tx1)
  have hR := Lib.hid (fun (W : World) (hb : Below w.heap.size w W) => r3_Text a.1.2.1.1 B d a.1.2.1.2 D e a.1.2.2 W (h.bound.num.below hb) (by omega) (h.bound.den.below hb) (by omega))
  have hH := Lib.hid (fun (W : World) => r24_hex a.1.1.1 (by omega) W)
  have hxl := hexN_len a.1.1.1.data.toList
  have hsz : a.1.1.1.data.toList.length = a.1.1.1.size := Array.length_toList
  clear h hl tx1
  obtain ⟨r, hr⟩ : ∃ r, r = lnAr a first := ⟨_, rfl⟩
  rw [← hr]
  unfold lnAr at hr
  unfold atc
  obtain ⟨⟨⟨nm, f⟩, ⟨⟨s, xs⟩, ys⟩⟩, st⟩ := a
  have hrv : rv s xs ys = rq ((s, xs), ys) := rfl
  dsimp only at *
  rw [hrv] at hR
  clear hrv
  generalize tf (nform (fval f)) = tx at *
  generalize tq (rq ((s, xs), ys)) = ty at *
  generalize hexN nm.data.toList = hh at *
  have HRr := Lib.hid hr
  clear hr
  have HF := Lib.hid ((Fr.refl w).box [.string nm, .slice A f.length c, .bool s, .slice B xs.length d, .slice D ys.length e, .bool st] 84)
  generalize f.length = n1 at *
  generalize xs.length = n2 at *
  generalize ys.length = n3 at *
  simp only [List.toArray] at *
  cases first with
  | true =>
    have HX := Lib.hid (show (⟨#[116, 114, 117, 101]⟩ : ByteArray) = ⟨r.toArray⟩ from by rw [HRr.out]; rfl)
    clear HRr hT hR hH
    go_enter Tryz.func53, Tryz.ntmps53
    go_wp2
    go_ret
    exact ⟨congrArg (fun x => Ending.returned (Value.string x)) HX.out, HF.out.bel⟩
  | false =>
  replace HRr := Lib.hid (show r = if nm.data = #[] then (if st = true then [60] else [60, 61]) ++ 32 :: (tx ++ 32 :: ty) else [98, 111, 111, 108, 32] ++ hh from HRr.out)
  by_cases hn0 : nm.data = #[]
  · rw [if_pos hn0] at HRr
    have hp : ¬ (0 : Int) < (nm.size : Int) := by
      have : nm.size = 0 := by show nm.data.size = 0; rw [hn0]; rfl
      omega
    clear hH hn0
    cases st with
    | true =>
      have HX := Lib.hid (show ((((⟨#[60]⟩ : ByteArray) ++ ⟨#[32]⟩) ++ ⟨tx.toArray⟩) ++ ⟨#[32]⟩) ++ ⟨ty.toArray⟩ = ⟨r.toArray⟩ from by
        rw [HRr.out, show (⟨#[60]⟩ : ByteArray) = ⟨[60].toArray⟩ from rfl, show (⟨#[32]⟩ : ByteArray) = ⟨[32].toArray⟩ from rfl, str_append, str_append, str_append, str_append]
        simp)
      clear HRr
      go_enter Tryz.func53, Tryz.ntmps53
      go_upto_region 8 with fail
      generalize World.alloc _ _ = W at HF ⊢
      have HF_ := Lib.hid HF.out.drew
      clear HF
      have HF := HF_
      clear HF_
      refine start_ (n := 12) (S := fun w' => w'.cell? ⟨w.heap.size, 0, none⟩ = some (.string nm) ∧ w'.cell? ⟨w.heap.size, 1, none⟩ = some (.slice A n1 c) ∧ w'.cell? ⟨w.heap.size, 2, none⟩ = some (.bool s) ∧ w'.cell? ⟨w.heap.size, 3, none⟩ = some (.slice B n2 d) ∧ w'.cell? ⟨w.heap.size, 4, none⟩ = some (.slice D n3 e) ∧ w'.cell? ⟨w.heap.size, 5, none⟩ = some (.bool true)) (ds := []) #[false, false, false, false, false, false, false, false, false, false, false, false] (by kernel_rfl) rfl rfl ⟨HF.out.cellN 0 rfl 0 rfl, HF.out.cellN 0 rfl 1 rfl, HF.out.cellN 0 rfl 2 rfl, HF.out.cellN 0 rfl 3 rfl, HF.out.cellN 0 rfl 4 rfl, HF.out.cellN 0 rfl 5 rfl⟩ (fun hHeld => ?_)
      generalize World.drew _ = W at *
      refine pu_ (v := ?_) (a' := ?_) 0 (some 17) rfl rfl ?_ ?_ ?_
      rotate_left; · intro w'; go_simp; with_reducible rfl
      rotate_left; · simp only [Act.put, s1, s2, s3]; rfl
      refine pu_ (v := ?_) (a' := ?_) 1 (some 18) rfl rfl ?_ ?_ ?_
      rotate_left; · intro w'; go_simp; first | with_reducible rfl | rw [if_neg (by omega)]
      rotate_left; · simp only [Act.put, s1, s2, s3]; rfl
      refine pu_ (v := ?_) (a' := ?_) 2 (some 19) rfl rfl ?_ ?_ ?_
      rotate_left; · intro w'; go_simp; with_reducible rfl
      rotate_left; · simp only [Act.put, s1, s2, s3]; rfl
      refine pu_ (v := ?_) (a' := ?_) 7 (some 24) rfl rfl ?_ ?_ ?_
      rotate_left; · intro w'; go_simp; with_reducible rfl
      rotate_left; · simp only [Act.put, s1, s2, s3]; rfl
      refine tk_ (v := ?_) (a' := ?_) 3 (some 20) rfl rfl ?_ hHeld ?_ ?_
      rotate_left
      · rintro w' ⟨s0, s1, s2, s3, s4, s5⟩; go_simp; with_reducible rfl
      rotate_left; · simp only [Act.put, s1, s2, s3]; rfl
      refine tk_ (v := ?_) (a' := ?_) 8 (some 25) rfl rfl ?_ hHeld ?_ ?_
      rotate_left
      · rintro w' ⟨s0, s1, s2, s3, s4, s5⟩; go_simp; with_reducible rfl
      rotate_left; · simp only [Act.put, s1, s2, s3]; rfl
      refine on_ 4 (N := (some 21)) rfl rfl (fun K hK => ?_)
      refine goes_ Tryz.func18 (by kernel_rfl) rfl #[.slice A n1 c] (by rfl) rfl rfl (by (try simp only [List.map_toArray, List.map_cons, List.map_nil]); first | done | rfl) ?_
      refine (hT.out W HF.out.bel).mono ?_
      rintro e W1 ⟨rfl, q1⟩
      refine ⟨_, rfl, ?_⟩
      replace HF := Lib.hid (HF.out.below q1)
      clear q1 hT
      refine hK.out _ _ ⟨HF.out.cellN 0 rfl 0 rfl, HF.out.cellN 0 rfl 1 rfl, HF.out.cellN 0 rfl 2 rfl, HF.out.cellN 0 rfl 3 rfl, HF.out.cellN 0 rfl 4 rfl, HF.out.cellN 0 rfl 5 rfl⟩ (fun hHeld => ?_)
      clear hK K
      refine norm_ (a' := ?_) ?_ ?_
      rotate_left
      · show Act.put _ (some 21) _ = _
        simp only [Act.put, s1, s2, s3]; rfl
      refine pu_ (v := ?_) (a' := ?_) 5 (some 22) rfl rfl ?_ ?_ ?_
      rotate_left; · intro w'; go_simp; first | with_reducible rfl | rw [if_neg (by omega)]
      rotate_left; · simp only [Act.put, s1, s2, s3]; rfl
      refine pu_ (v := ?_) (a' := ?_) 6 (some 23) rfl rfl ?_ ?_ ?_
      rotate_left; · intro w'; go_simp; first | with_reducible rfl | rw [if_neg (by omega)]
      rotate_left; · simp only [Act.put, s1, s2, s3]; rfl
      refine on_ 9 (N := (some 26)) rfl rfl (fun K hK => ?_)
      refine goes_ Tryz.func63 (by kernel_rfl) rfl #[.agg #[.bool s, .slice B n2 d, .slice D n3 e]] (by rfl) rfl rfl (by (try simp only [List.map_toArray, List.map_cons, List.map_nil]); first | done | rfl) ?_
      refine (hR.out W1 HF.out.bel).mono ?_
      rintro e W2 ⟨rfl, q1⟩
      refine ⟨_, rfl, ?_⟩
      replace HF := Lib.hid (HF.out.below q1)
      clear q1 hR
      refine hK.out _ _ ⟨HF.out.cellN 0 rfl 0 rfl, HF.out.cellN 0 rfl 1 rfl, HF.out.cellN 0 rfl 2 rfl, HF.out.cellN 0 rfl 3 rfl, HF.out.cellN 0 rfl 4 rfl, HF.out.cellN 0 rfl 5 rfl⟩ (fun hHeld => ?_)
      clear hK K
      refine norm_ (a' := ?_) ?_ ?_
      rotate_left
      · show Act.put _ (some 26) _ = _
        simp only [Act.put, s1, s2, s3]; rfl
      refine pu_ (v := ?_) (a' := ?_) 10 (some 27) rfl rfl ?_ ?_ ?_
      rotate_left; · intro w'; go_simp; first | with_reducible rfl | rw [if_neg (by omega)]
      rotate_left; · simp only [Act.put, s1, s2, s3]; rfl
      refine pu_ (v := ?_) (a' := ?_) 11 (some 4) rfl rfl ?_ ?_ ?_
      rotate_left; · intro w'; go_simp; with_reducible rfl
      rotate_left; · simp only [Act.put, s1, s2, s3]; rfl
      refine done_ (by kernel_rfl) ?_
      go_wp2
      go_ret
      exact ⟨congrArg (fun x => Ending.returned (Value.string x)) HX.out, HF.out.bel⟩
    | false =>
      have HX := Lib.hid (show ((((⟨#[60, 61]⟩ : ByteArray) ++ ⟨#[32]⟩) ++ ⟨tx.toArray⟩) ++ ⟨#[32]⟩) ++ ⟨ty.toArray⟩ = ⟨r.toArray⟩ from by
        rw [HRr.out, show (⟨#[60, 61]⟩ : ByteArray) = ⟨[60, 61].toArray⟩ from rfl, show (⟨#[32]⟩ : ByteArray) = ⟨[32].toArray⟩ from rfl, str_append, str_append, str_append, str_append]
        simp)
      clear HRr
      go_enter Tryz.func53, Tryz.ntmps53
      go_upto_region 8 with fail
      generalize World.alloc _ _ = W at HF ⊢
      have HF_ := Lib.hid HF.out.drew
      clear HF
      have HF := HF_
      clear HF_
      refine start_ (n := 12) (S := fun w' => w'.cell? ⟨w.heap.size, 0, none⟩ = some (.string nm) ∧ w'.cell? ⟨w.heap.size, 1, none⟩ = some (.slice A n1 c) ∧ w'.cell? ⟨w.heap.size, 2, none⟩ = some (.bool s) ∧ w'.cell? ⟨w.heap.size, 3, none⟩ = some (.slice B n2 d) ∧ w'.cell? ⟨w.heap.size, 4, none⟩ = some (.slice D n3 e) ∧ w'.cell? ⟨w.heap.size, 5, none⟩ = some (.bool false)) (ds := []) #[false, false, false, false, false, false, false, false, false, false, false, false] (by kernel_rfl) rfl rfl ⟨HF.out.cellN 0 rfl 0 rfl, HF.out.cellN 0 rfl 1 rfl, HF.out.cellN 0 rfl 2 rfl, HF.out.cellN 0 rfl 3 rfl, HF.out.cellN 0 rfl 4 rfl, HF.out.cellN 0 rfl 5 rfl⟩ (fun hHeld => ?_)
      generalize World.drew _ = W at *
      refine pu_ (v := ?_) (a' := ?_) 0 (some 17) rfl rfl ?_ ?_ ?_
      rotate_left; · intro w'; go_simp; with_reducible rfl
      rotate_left; · simp only [Act.put, s1, s2, s3]; rfl
      refine pu_ (v := ?_) (a' := ?_) 1 (some 18) rfl rfl ?_ ?_ ?_
      rotate_left; · intro w'; go_simp; first | with_reducible rfl | rw [if_neg (by omega)]
      rotate_left; · simp only [Act.put, s1, s2, s3]; rfl
      refine pu_ (v := ?_) (a' := ?_) 2 (some 19) rfl rfl ?_ ?_ ?_
      rotate_left; · intro w'; go_simp; with_reducible rfl
      rotate_left; · simp only [Act.put, s1, s2, s3]; rfl
      refine pu_ (v := ?_) (a' := ?_) 7 (some 24) rfl rfl ?_ ?_ ?_
      rotate_left; · intro w'; go_simp; with_reducible rfl
      rotate_left; · simp only [Act.put, s1, s2, s3]; rfl
      refine tk_ (v := ?_) (a' := ?_) 3 (some 20) rfl rfl ?_ hHeld ?_ ?_
      rotate_left
      · rintro w' ⟨s0, s1, s2, s3, s4, s5⟩; go_simp; with_reducible rfl
      rotate_left; · simp only [Act.put, s1, s2, s3]; rfl
      refine tk_ (v := ?_) (a' := ?_) 8 (some 25) rfl rfl ?_ hHeld ?_ ?_
      rotate_left
      · rintro w' ⟨s0, s1, s2, s3, s4, s5⟩; go_simp; with_reducible rfl
      rotate_left; · simp only [Act.put, s1, s2, s3]; rfl
      refine on_ 4 (N := (some 21)) rfl rfl (fun K hK => ?_)
      refine goes_ Tryz.func18 (by kernel_rfl) rfl #[.slice A n1 c] (by rfl) rfl rfl (by (try simp only [List.map_toArray, List.map_cons, List.map_nil]); first | done | rfl) ?_
      refine (hT.out W HF.out.bel).mono ?_
      rintro e W1 ⟨rfl, q1⟩
      refine ⟨_, rfl, ?_⟩
      replace HF := Lib.hid (HF.out.below q1)
      clear q1 hT
      refine hK.out _ _ ⟨HF.out.cellN 0 rfl 0 rfl, HF.out.cellN 0 rfl 1 rfl, HF.out.cellN 0 rfl 2 rfl, HF.out.cellN 0 rfl 3 rfl, HF.out.cellN 0 rfl 4 rfl, HF.out.cellN 0 rfl 5 rfl⟩ (fun hHeld => ?_)
      clear hK K
      refine norm_ (a' := ?_) ?_ ?_
      rotate_left
      · show Act.put _ (some 21) _ = _
        simp only [Act.put, s1, s2, s3]; rfl
      refine pu_ (v := ?_) (a' := ?_) 5 (some 22) rfl rfl ?_ ?_ ?_
      rotate_left; · intro w'; go_simp; first | with_reducible rfl | rw [if_neg (by omega)]
      rotate_left; · simp only [Act.put, s1, s2, s3]; rfl
      refine pu_ (v := ?_) (a' := ?_) 6 (some 23) rfl rfl ?_ ?_ ?_
      rotate_left; · intro w'; go_simp; first | with_reducible rfl | rw [if_neg (by omega)]
      rotate_left; · simp only [Act.put, s1, s2, s3]; rfl
      refine on_ 9 (N := (some 26)) rfl rfl (fun K hK => ?_)
      refine goes_ Tryz.func63 (by kernel_rfl) rfl #[.agg #[.bool s, .slice B n2 d, .slice D n3 e]] (by rfl) rfl rfl (by (try simp only [List.map_toArray, List.map_cons, List.map_nil]); first | done | rfl) ?_
      refine (hR.out W1 HF.out.bel).mono ?_
      rintro e W2 ⟨rfl, q1⟩
      refine ⟨_, rfl, ?_⟩
      replace HF := Lib.hid (HF.out.below q1)
      clear q1 hR
      refine hK.out _ _ ⟨HF.out.cellN 0 rfl 0 rfl, HF.out.cellN 0 rfl 1 rfl, HF.out.cellN 0 rfl 2 rfl, HF.out.cellN 0 rfl 3 rfl, HF.out.cellN 0 rfl 4 rfl, HF.out.cellN 0 rfl 5 rfl⟩ (fun hHeld => ?_)
      clear hK K
      refine norm_ (a' := ?_) ?_ ?_
      rotate_left
      · show Act.put _ (some 26) _ = _
        simp only [Act.put, s1, s2, s3]; rfl
      refine pu_ (v := ?_) (a' := ?_) 10 (some 27) rfl rfl ?_ ?_ ?_
      rotate_left; · intro w'; go_simp; first | with_reducible rfl | rw [if_neg (by omega)]
      rotate_left; · simp only [Act.put, s1, s2, s3]; rfl
      refine pu_ (v := ?_) (a' := ?_) 11 (some 4) rfl rfl ?_ ?_ ?_
      rotate_left; · intro w'; go_simp; with_reducible rfl
      rotate_left; · simp only [Act.put, s1, s2, s3]; rfl
      refine done_ (by kernel_rfl) ?_
      go_wp2
      go_ret
      exact ⟨congrArg (fun x => Ending.returned (Value.string x)) HX.out, HF.out.bel⟩
  · rw [if_neg hn0] at HRr
    have hp : (0 : Int) < (nm.size : Int) := by
      have : nm.size ≠ 0 := fun e => hn0 (Array.eq_empty_of_size_eq_zero e)
      omega
    have HX := Lib.hid (show (⟨#[98, 111, 111, 108, 32]⟩ : ByteArray) ++ ⟨hh.toArray⟩ = ⟨r.toArray⟩ from by
      rw [HRr.out, show (⟨#[98, 111, 111, 108, 32]⟩ : ByteArray) = ⟨[98, 111, 111, 108, 32].toArray⟩ from rfl, str_append])
    clear HRr hT hR hn0
    go_enter Tryz.func53, Tryz.ntmps53
    go_upto_region 3 with fail
    generalize World.alloc _ _ = W at HF ⊢
    have a0 := HF.out.cellN 0 rfl 0 rfl
    go_wp2_with fail
    refine (hH.out _).mono ?_
    rintro e' W2 ⟨rfl, hb⟩
    replace HF := Lib.hid (HF.out.below hb)
    clear hb hH a0
    go_wp2
    go_ret
    exact ⟨congrArg (fun x => Ending.returned (Value.string x)) HX.out, HF.out.bel⟩
end Go.Proofs.YtidgpkccjcddgaaGreatDoor.F
