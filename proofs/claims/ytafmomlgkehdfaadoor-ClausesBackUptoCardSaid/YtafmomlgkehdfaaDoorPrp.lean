/- The walk of the reference's Parse. Condition: texts of at most 67108864 bytes. -/
import Derived.Test.YtafmomlgkehdfaaDoorPrr
set_option linter.unusedVariables false
set_option linter.unusedSimpArgs false
namespace Go.Proofs.YtafmomlgkehdfaaDoor.F
open Go.RowKit Go.Shelf Go.Proofs.YtafmomlgkehdfaaDoorW.PrintLast

theorem isC_cons (b : UInt8) (r : List UInt8) : isC (b :: r) = (b == 99) := by
  unfold isC Lib.hasPrefix
  rw [List.isPrefixOf, List.isPrefixOf, Bool.and_true]
  rw [Bool.eq_iff_iff, beq_iff_eq, beq_iff_eq]
  exact eq_comm
theorem wds_nil : wds [] = [] := rfl
/-- the first byte, where there are words -/
theorem first_byte {x : List UInt8} (h : (wds x).length ≠ 0) : ∃ h0 : 0 < (⟨x.toArray⟩ : ByteArray).size, ((((⟨x.toArray⟩ : ByteArray)[0]'h0).toNat : Int) == 99) = isC x := by
  cases x with
  | nil => exact absurd (by rw [wds_nil]; rfl) h
  | cons b r =>
    have h0 : 0 < (⟨(b :: r).toArray⟩ : ByteArray).size := by rw [str_size]; simp
    refine ⟨h0, ?_⟩
    rw [str_get, isC_cons]
    show ((b.toNat : Int) == 99) = _
    rw [Bool.eq_iff_iff, beq_iff_eq, beq_iff_eq]
    constructor
    · intro e
      exact UInt8.toNat_inj.1 (show b.toNat = (99 : UInt8).toNat from Int.ofNat.inj e)
    · rintro rfl
      rfl

set_option maxHeartbeats 2000000 in
set_option maxRecDepth 100000 in
theorem ref_Parse (l : List UInt8) (w : World) (hl : l.length ≤ 67108864) :
    Calls Tryd.prog 9 #[.string ⟨l.toArray⟩] w (ToldP w l) := by
  have HLi := Lib.hid (ref_lines l w hl)
  have HL := Lib.hid (lns_le l)
  have HTo := Lib.hid (tot_lns l)
  have HE := Lib.hid (fun (i : Nat) (t : St) => @parseV_stop l t i)
  have HF := Lib.hid (fun (t : St) => @parseV_end l t)
  have hlsl := lns_length l
  generalize lns l = ls at *
  go_enter Tryd.func9, Tryd.ntmps9
  go_wp2_with fail
  refine HLi.out.mono ?_
  rintro e W1 ⟨A, c, rfl, hac, hr, q1⟩
  have hwR : w.heap.size ≤ W1.heap.size := q1.size
  have hR1 := OwnT.mk (w := W1) (cells St.init (.slice none 0 0) (.slice none 0 0)) 46
  have hal : Below W1.heap.size W1 (W1.alloc (.cells (cells St.init (.slice none 0 0) (.slice none 0 0)).toArray 46 (0, 0))) := (Below.refl _ W1).alloc (Nat.le_refl _) _
  have HR := Lib.hid hR1
  have HS := Lib.hid (StV.init (W1.alloc (.cells (cells St.init (.slice none 0 0) (.slice none 0 0)).toArray 46 (0, 0))) (B := w.heap.size) (Nat.le_trans hwR hal.size))
  have HW := Lib.hid (hr.keep (KeepT.below hal))
  have HB := Lib.hid (q1.trans (hal.mono hwR))
  clear hR1 hal hr q1 HLi
  go_wp2
  go_loopg [8] ls.length (fun gg s8 wr => ∃ (i : Nat) (t : St) (vl vn : Value), i ≤ ls.length ∧ ls.length - i ≤ gg ∧ s8 = .int .i64 i ∧ Hid (stLs St.init 0 (ls.take i) = .inl t) ∧ Hid t.Fine ∧ t.now.length ≤ tot (ls.take i) ∧ t.l.length ≤ tot (ls.take i) ∧ OwnT wr W1.heap.size 46 (cells t vl vn) ∧ Hid (StV wr w.heap.size vl vn t.l t.now) ∧ Hid (StrR 9 wr A ls) ∧ Hid (Below w.heap.size w wr))
  case atStart => exact ⟨0, St.init, _, _, Nat.zero_le _, by omega, rfl, rfl, St.init_fine, Nat.le_refl _, Nat.le_refl _, HR.out, HS, HW, HB⟩
  case round =>
    clear HR HS HW HB
    obtain ⟨i, t, vl, vn, hi, hg, rfl, HT, HFn, hnow, hll, hR, HS, HW, HB⟩ := hrel
    have HR := Lib.hid hR
    clear hR
    obtain ⟨⟨A0, c0, rfl, _, _⟩, A1, c1, rfl, _, _⟩ := HS.out.form
    by_cases hlt : i < ls.length
    · have hltz : (i : Int) < (ls.length : Int) := by omega
      obtain ⟨ad, rfl, x0⟩ := Knd.at_str HW.out.1 i hlt
      have hxl : ls[i].length ≤ 67108864 := Nat.le_trans (HL.out ls[i] (List.getElem_mem hlt)) hl
      have hto := Nat.le_trans (tot_le ls i) HTo.out
      have hts := tot_take hlt
      have HStep := Lib.hid (stLs_take hlt HT.out)
      have HStop := Lib.hid (HE.out i t hlt HT.out)
      have HFi := Lib.hid (fun (t' : St) (h : stL t ls[i] = some t') => stL_fine h HFn.out)
      have HSpc := Lib.hid (show stL t ls[i] = if isC ls[i] = true ∨ (wds ls[i]).length = 0 then some t else if t.head then stWs t (wds ls[i]) else headW (wds ls[i]) from rfl)
      have HWd := Lib.hid (fun W => ref_words ls[i] W hxl)
      have HQ := Lib.hid (And.intro (show ∀ x ∈ wds ls[i], x.length ≤ 67108864 from fun x hx => Nat.le_trans (wds_le _ x hx) hxl) (show (wds ls[i]).length ≤ 67108865 from Nat.le_trans (wdsQ_length blank ls[i]) (by omega)))
      have HFb := Lib.hid (@first_byte ls[i])
      clear HT
      generalize hx : ls[i] = x at *
      generalize stL t x = ot at *
      clear hx
      generalize isC x = ic at *
      generalize wds x = ws at *
      generalize (⟨x.toArray⟩ : ByteArray) = X at *
      have hBr : w.heap.size ≤ wr.heap.size := HB.out.size
      go_wp2_with fail
      refine (HWd.out _).mono ?_
      rintro e W2 ⟨A2, c2, rfl, hac2, hr2, q1⟩
      replace x0 := cell_below q1 x0
      replace HR := Lib.hid (HR.out.keep (KeepT.below q1))
      replace HS := Lib.hid (HS.out.below q1)
      replace HW := Lib.hid (HW.out.keep (KeepT.below q1))
      replace HB := Lib.hid (HB.out.trans (q1.mono hBr))
      have HW2s := Lib.hid hr2
      clear q1 hr2 HWd
      have hBr2 : w.heap.size ≤ W2.heap.size := HB.out.size
      have hn1 : t.now.length ≤ tot (ls.take (i + 1)) := by rw [hts]; omega
      have hl1 : t.l.length ≤ tot (ls.take (i + 1)) := by rw [hts]; omega
      have r0 := HR.out.cellN 0 rfl
      have r1 := HR.out.cellN 1 rfl
      have r2 := HR.out.cellN 2 rfl
      have r3 := HR.out.cellN 3 rfl
      have r4 := HR.out.cellN 4 rfl
      have r5 := HR.out.cellN 5 rfl
      by_cases hw0 : ws.length = 0
      · have hw0' : ((ws.length : Int) == 0) = true := by rw [hw0]; rfl
        have ho := HSpc.out.trans (if_pos (Or.inr hw0))
        subst ho
        have HT2 := Lib.hid HStep.out
        have HF2 := HFn
        clear HFi HStep HStop HSpc HFb
        go_wp2
        go_roundg (ls.length - (i + 1))
        case measure => omega
        case rel => exact ⟨i + 1, t, _, _, by omega, by omega, by go_num, HT2, HF2, hn1, hl1, HR.out, HS, HW, HB⟩
      · have hw0' : ((ws.length : Int) == 0) = false := by rw [beq_eq_false_iff_ne]; omega
        obtain ⟨hX0, hXc⟩ := HFb.out hw0
        cases hic : ic with
        | true =>
          rw [hic] at hXc
          have ho := HSpc.out.trans (if_pos (Or.inl hic))
          subst ho
          have HT2 := Lib.hid HStep.out
          have HF2 := HFn
          clear HFi HStep HStop HSpc HFb
          go_wp2
          go_roundg (ls.length - (i + 1))
          case measure => omega
          case rel => exact ⟨i + 1, t, _, _, by omega, by omega, by go_num, HT2, HF2, hn1, hl1, HR.out, HS, HW, HB⟩
        | false =>
          rw [hic] at hXc
          have ho := Lib.hid (HSpc.out.trans (if_neg (by rintro (h | h); rw [hic] at h; cases h; exact hw0 h)))
          clear HSpc HFb
          cases hh : t.head with
          | true =>
            rw [hh, if_pos rfl] at ho
            have HCl := Lib.hid (ref_line w.heap.size t (.slice A0 t.l.length c0) (.slice A1 t.now.length c1) A2 c2 ws W2 hBr2 HS.out HFn.out hh (by omega) (by omega) HW2s.out hac2 HQ.out.2 HQ.out.1)
            rw [← ho.out] at HCl
            rw [show (cells t (.slice A0 t.l.length c0) (.slice A1 t.now.length c1)).toArray = #[.bool true, .int .i64 t.atoms, .int .i64 t.many, .slice A0 t.l.length c0, .slice A1 t.now.length c1, .bool t.opn] from by simp only [cells, hh]] at HCl
            clear ho HW2s
            go_wp2_with fail
            refine (HCl.out).mono ?_
            rintro e W3 ⟨t2, vl2, vn2, rfl, qb, qs, hq2, qk⟩
            have HR2 := Lib.hid (HR.out.keep (qk _ (by decide) (by decide)))
            have HS2 := Lib.hid qs
            have HW2 := Lib.hid (HW.out.keep (qk _ (by decide) (by decide)))
            have HB2 := Lib.hid (HB.out.trans qb)
            clear qb qs qk HR HS HW HB HQ HFn
            obtain ⟨⟨Al, cl, rfl, hal, hcl⟩, An, cn, rfl, han, hcn⟩ := HS2.out.form
            have HRn := Lib.hid (And.intro (show OwnT ((((((W3.setCell ⟨W1.heap.size, 0, none⟩ (.bool t2.head)).setCell ⟨W1.heap.size, 1, none⟩ (.int .i64 t2.atoms)).setCell ⟨W1.heap.size, 2, none⟩ (.int .i64 t2.many)).setCell ⟨W1.heap.size, 3, none⟩ (.slice Al t2.l.length cl)).setCell ⟨W1.heap.size, 4, none⟩ (.slice An t2.now.length cn)).setCell ⟨W1.heap.size, 5, none⟩ (.bool t2.opn)) W1.heap.size 46 (cells t2 (.slice Al t2.l.length cl) (.slice An t2.now.length cn)) from (((((HR2.out.set 0 (.bool t2.head)).set 1 (.int .i64 t2.atoms)).set 2 (.int .i64 t2.many)).set 3 (.slice Al t2.l.length cl)).set 4 (.slice An t2.now.length cn)).set 5 (.bool t2.opn)) trivial)
            have hk6 : ∀ u, u ≠ 46 → KeepT u W3 ((((((W3.setCell ⟨W1.heap.size, 0, none⟩ (.bool t2.head)).setCell ⟨W1.heap.size, 1, none⟩ (.int .i64 t2.atoms)).setCell ⟨W1.heap.size, 2, none⟩ (.int .i64 t2.many)).setCell ⟨W1.heap.size, 3, none⟩ (.slice Al t2.l.length cl)).setCell ⟨W1.heap.size, 4, none⟩ (.slice An t2.now.length cn)).setCell ⟨W1.heap.size, 5, none⟩ (.bool t2.opn)) := fun u hu => (((((KeepT.set HR2.out hu _ _).trans (KeepT.set (HR2.out.set 0 _) hu _ _)).trans (KeepT.set ((HR2.out.set 0 _).set 1 _) hu _ _)).trans (KeepT.set (((HR2.out.set 0 _).set 1 _).set 2 _) hu _ _)).trans (KeepT.set ((((HR2.out.set 0 _).set 1 _).set 2 _).set 3 _) hu _ _)).trans (KeepT.set (((((HR2.out.set 0 _).set 1 _).set 2 _).set 3 _).set 4 _) hu _ _)
            have HSn := Lib.hid (HS2.out.keep (hk6 _ (by decide)) (hk6 _ (by decide)))
            have HWn := Lib.hid (HW2.out.keep (hk6 _ (by decide)))
            have HBn := Lib.hid (HB2.out.trans (show Below w.heap.size W3 ((((((W3.setCell ⟨W1.heap.size, 0, none⟩ (.bool t2.head)).setCell ⟨W1.heap.size, 1, none⟩ (.int .i64 t2.atoms)).setCell ⟨W1.heap.size, 2, none⟩ (.int .i64 t2.many)).setCell ⟨W1.heap.size, 3, none⟩ (.slice Al t2.l.length cl)).setCell ⟨W1.heap.size, 4, none⟩ (.slice An t2.now.length cn)).setCell ⟨W1.heap.size, 5, none⟩ (.bool t2.opn)) from ((((((Below.refl _ _).setCell hwR _).setCell hwR _).setCell hwR _).setCell hwR _).setCell hwR _).setCell hwR _))
            have g0 := HR2.out.cellN 0 rfl
            have f0 := HR2.out.own.frozen 0
            have g1 := HR2.out.cellN 1 rfl
            have f1 := HR2.out.own.frozen 1
            have g2 := HR2.out.cellN 2 rfl
            have f2 := HR2.out.own.frozen 2
            have g3 := HR2.out.cellN 3 rfl
            have f3 := HR2.out.own.frozen 3
            have g4 := HR2.out.cellN 4 rfl
            have f4 := HR2.out.own.frozen 4
            have g5 := HR2.out.cellN 5 rfl
            have f5 := HR2.out.own.frozen 5
            clear hk6 HR2 HS2 HW2 HB2
            cases ot with
            | none =>
              have hpv := Lib.hid (HStop.out rfl)
              clear HRn HSn HWn
              go_wp2
              (try simp only [Exit.inBlock, Exit.then]); refine bodyPost_ret (results_tmp4 rfl _ _ _) rfl ?_
              exact toldP_bad hpv.out HBn.out
            | some t3 =>
              obtain rfl := hq2 t3 rfl
              obtain ⟨hF2, hnow2, hll2⟩ := HFi.out t3 rfl
              have HF2 := Lib.hid hF2
              have HT2 := Lib.hid HStep.out
              have hn2 : t3.now.length ≤ tot (ls.take (i + 1)) := by rw [hts]; omega
              have hl2 : t3.l.length ≤ tot (ls.take (i + 1)) := by rw [hts]; omega
              clear hF2 HFi HStep HStop
              go_wp2
              go_roundg (ls.length - (i + 1))
              case measure => omega
              case rel => exact ⟨i + 1, t3, _, _, by omega, by omega, by go_num, HT2, HF2, hn2, hl2, HRn.out.1, HSn, HWn, HBn⟩
          | false =>
            rw [hh, if_neg (by decide)] at ho
            have HCl := Lib.hid (ref_headed w.heap.size A2 c2 ws W2 hBr2 HW2s.out hac2 HQ.out.1)
            rw [← ho.out] at HCl
            clear ho HW2s
            go_wp2_with fail
            refine (HCl.out).mono ?_
            rintro e W3 ⟨t2, vl2, vn2, rfl, qb, qs, hq2, qk⟩
            have HR2 := Lib.hid (HR.out.keep (qk _ (by decide) (by decide)))
            have HS2 := Lib.hid qs
            have HW2 := Lib.hid (HW.out.keep (qk _ (by decide) (by decide)))
            have HB2 := Lib.hid (HB.out.trans qb)
            clear qb qs qk HR HS HW HB HQ HFn
            obtain ⟨⟨Al, cl, rfl, hal, hcl⟩, An, cn, rfl, han, hcn⟩ := HS2.out.form
            have HRn := Lib.hid (And.intro (show OwnT ((((((W3.setCell ⟨W1.heap.size, 0, none⟩ (.bool t2.head)).setCell ⟨W1.heap.size, 1, none⟩ (.int .i64 t2.atoms)).setCell ⟨W1.heap.size, 2, none⟩ (.int .i64 t2.many)).setCell ⟨W1.heap.size, 3, none⟩ (.slice Al t2.l.length cl)).setCell ⟨W1.heap.size, 4, none⟩ (.slice An t2.now.length cn)).setCell ⟨W1.heap.size, 5, none⟩ (.bool t2.opn)) W1.heap.size 46 (cells t2 (.slice Al t2.l.length cl) (.slice An t2.now.length cn)) from (((((HR2.out.set 0 (.bool t2.head)).set 1 (.int .i64 t2.atoms)).set 2 (.int .i64 t2.many)).set 3 (.slice Al t2.l.length cl)).set 4 (.slice An t2.now.length cn)).set 5 (.bool t2.opn)) trivial)
            have hk6 : ∀ u, u ≠ 46 → KeepT u W3 ((((((W3.setCell ⟨W1.heap.size, 0, none⟩ (.bool t2.head)).setCell ⟨W1.heap.size, 1, none⟩ (.int .i64 t2.atoms)).setCell ⟨W1.heap.size, 2, none⟩ (.int .i64 t2.many)).setCell ⟨W1.heap.size, 3, none⟩ (.slice Al t2.l.length cl)).setCell ⟨W1.heap.size, 4, none⟩ (.slice An t2.now.length cn)).setCell ⟨W1.heap.size, 5, none⟩ (.bool t2.opn)) := fun u hu => (((((KeepT.set HR2.out hu _ _).trans (KeepT.set (HR2.out.set 0 _) hu _ _)).trans (KeepT.set ((HR2.out.set 0 _).set 1 _) hu _ _)).trans (KeepT.set (((HR2.out.set 0 _).set 1 _).set 2 _) hu _ _)).trans (KeepT.set ((((HR2.out.set 0 _).set 1 _).set 2 _).set 3 _) hu _ _)).trans (KeepT.set (((((HR2.out.set 0 _).set 1 _).set 2 _).set 3 _).set 4 _) hu _ _)
            have HSn := Lib.hid (HS2.out.keep (hk6 _ (by decide)) (hk6 _ (by decide)))
            have HWn := Lib.hid (HW2.out.keep (hk6 _ (by decide)))
            have HBn := Lib.hid (HB2.out.trans (show Below w.heap.size W3 ((((((W3.setCell ⟨W1.heap.size, 0, none⟩ (.bool t2.head)).setCell ⟨W1.heap.size, 1, none⟩ (.int .i64 t2.atoms)).setCell ⟨W1.heap.size, 2, none⟩ (.int .i64 t2.many)).setCell ⟨W1.heap.size, 3, none⟩ (.slice Al t2.l.length cl)).setCell ⟨W1.heap.size, 4, none⟩ (.slice An t2.now.length cn)).setCell ⟨W1.heap.size, 5, none⟩ (.bool t2.opn)) from ((((((Below.refl _ _).setCell hwR _).setCell hwR _).setCell hwR _).setCell hwR _).setCell hwR _).setCell hwR _))
            have g0 := HR2.out.cellN 0 rfl
            have f0 := HR2.out.own.frozen 0
            have g1 := HR2.out.cellN 1 rfl
            have f1 := HR2.out.own.frozen 1
            have g2 := HR2.out.cellN 2 rfl
            have f2 := HR2.out.own.frozen 2
            have g3 := HR2.out.cellN 3 rfl
            have f3 := HR2.out.own.frozen 3
            have g4 := HR2.out.cellN 4 rfl
            have f4 := HR2.out.own.frozen 4
            have g5 := HR2.out.cellN 5 rfl
            have f5 := HR2.out.own.frozen 5
            clear hk6 HR2 HS2 HW2 HB2
            cases ot with
            | none =>
              have hpv := Lib.hid (HStop.out rfl)
              clear HRn HSn HWn
              go_wp2
              (try simp only [Exit.inBlock, Exit.then]); refine bodyPost_ret (results_tmp4 rfl _ _ _) rfl ?_
              exact toldP_bad hpv.out HBn.out
            | some t3 =>
              obtain rfl := hq2 t3 rfl
              obtain ⟨hF2, hnow2, hll2⟩ := HFi.out t3 rfl
              have HF2 := Lib.hid hF2
              have HT2 := Lib.hid HStep.out
              have hn2 : t3.now.length ≤ tot (ls.take (i + 1)) := by rw [hts]; omega
              have hl2 : t3.l.length ≤ tot (ls.take (i + 1)) := by rw [hts]; omega
              clear hF2 HFi HStep HStop
              go_wp2
              go_roundg (ls.length - (i + 1))
              case measure => omega
              case rel => exact ⟨i + 1, t3, _, _, by omega, by omega, by go_num, HT2, HF2, hn2, hl2, HRn.out.1, HSn, HWn, HBn⟩
    · have hltz : ¬ (i : Int) < (ls.length : Int) := by omega
      have hT := HT.out
      rw [List.take_of_length_le (by omega)] at hT
      have HP := Lib.hid (HF.out t hT)
      obtain ⟨Ar, cr, er, hac', hcm, hrow⟩ := HS.out.row
      simp only [Value.slice.injEq] at er
      obtain ⟨rfl, -, rfl⟩ := er
      have hfm := HFn.out.many
      have HRw := Lib.hid hrow
      clear hT HT HS HF HE HL HFn hrow
      have c0' := HR.out.cellN 0 rfl
      have c1' := HR.out.cellN 1 rfl
      have c2' := HR.out.cellN 2 rfl
      have c3' := HR.out.cellN 3 rfl
      have c5' := HR.out.cellN 5 rfl
      clear HR HW
      obtain ⟨hd, at', mn, cl, nw, op⟩ := t
      simp only [cells] at *
      cases hd with
      | false =>
        have hpv := Lib.hid (HP.out.trans (if_pos (Or.inl rfl)))
        clear HP
        go_wp2
        (try simp only [Exit.inBlock, Exit.then]); refine bodyPost_ret (results_tmp4 rfl _ _ _) rfl ?_
        exact toldP_bad hpv.out HB.out
      | true =>
        cases op with
        | true =>
          have hpv := Lib.hid (HP.out.trans (if_pos (Or.inr (Or.inl rfl))))
          clear HP
          go_wp2
          (try simp only [Exit.inBlock, Exit.then]); refine bodyPost_ret (results_tmp4 rfl _ _ _) rfl ?_
          exact toldP_bad hpv.out HB.out
        | false =>
          by_cases hfull : (cl.length : Int) = mn
          · have hfull' : ((cl.length : Int) == mn) = true := by simpa using hfull
            have hpv := Lib.hid (HP.out.trans (if_neg (by rintro (h | h | h); cases h; cases h; exact h hfull)))
            clear HP
            go_wp2_with fail
            go_quiet (fail)
            go_wp2
            (try simp only [Exit.inBlock, Exit.then]); refine bodyPost_ret (results_tmp4 rfl _ _ _) rfl ?_
            exact toldP_good hpv.out hac' hcm (Knd.Row.below (below_drewN (Below.refl _ _) _) HRw.out) (below_drewN HB.out _)
          · have hfull' : ((cl.length : Int) == mn) = false := by simpa using hfull
            have hpv := Lib.hid (HP.out.trans (if_pos (Or.inr (Or.inr hfull))))
            clear HP
            go_wp2
            (try simp only [Exit.inBlock, Exit.then]); refine bodyPost_ret (results_tmp4 rfl _ _ _) rfl ?_
            exact toldP_bad hpv.out HB.out
end Go.Proofs.YtafmomlgkehdfaaDoor.F
