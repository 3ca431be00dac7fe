/- The walk of the reader's line. Condition: lines of at most 67108864 bytes, what was read so far bounded. -/
import Derived.Test.YtafmomlgkehdfaaDoorPsv
import Derived.Test.YtafmomlgkehdfaaDoorWlw
set_option linter.unusedVariables false
set_option linter.unusedSimpArgs false
namespace Go.Proofs.YtafmomlgkehdfaaDoor.F
open Go.RowKit Go.Shelf Go.Proofs.YtafmomlgkehdfaaDoorW.PrintLast

theorem atom9 (x : Int) (hx0 : -999999999 ≤ x) (hx1 : x ≤ 999999999) (w : World) :
    Calls Tryd.prog 15 #[.int .i64 x] w fun e w' => e = .returned (.int .i64 (x.natAbs : Int)) ∧ w' = w := by
  by_cases h : 0 ≤ x
  · go_enter Tryd.func15, Tryd.ntmps15
    go_wp2
    go_ret
    exact ⟨ret_int (by first | omega | (split <;> omega)), rfl⟩
  · go_enter Tryd.func15, Tryd.ntmps15
    go_wp2
    go_ret
    exact ⟨ret_int (by first | omega | (split <;> omega)), rfl⟩
theorem hasPrefix_ (l : List UInt8) (w : World) : Calls Tryd.prog 34 #[.string ⟨l.toArray⟩, .string ⟨#[99]⟩] w fun e w' => e = .returned (.bool (isC l)) ∧ w' = w := strings_HasPrefix ⟨l.toArray⟩ ⟨#[99]⟩ w
theorem wds_le (l : List UInt8) : ∀ x ∈ wds l, x.length ≤ l.length := by
  intro x hx
  unfold wds wdsQ at hx
  obtain ⟨y, _, rfl⟩ := List.mem_map.1 hx
  unfold cutAt
  rw [List.length_drop, List.length_take]
  omega

/-- what a line leaves -/
def LineP (t : TypeId) (B R : Nat) (w : World) (o : Option St) (e : Ending) (w' : World) : Prop :=
  e = .returned (.bool o.isSome) ∧ Below B w w' ∧ ∀ st, o = some st → ∃ vl vn, OwnT w' R t (cells st vl vn) ∧ StV w' B vl vn st.l st.now
theorem line_no {t : TypeId} {B R : Nat} {w w' : World} {o : Option St} (ho : o = none) (hb : Below B w w') : LineP t B R w o (.returned (.bool false)) w' := by
  subst ho
  exact ⟨rfl, hb, fun _ h => by cases h⟩
theorem line_nob {t : TypeId} {B R : Nat} {w w' : World} {o : Option St} {b : Bool} (hb : b = false) (ho : o = none) (hB : Below B w w') : LineP t B R w o (.returned (.bool b)) w' := by
  subst hb
  exact line_no ho hB
theorem line_yes {t : TypeId} {B R : Nat} {w w' : World} {o : Option St} {st : St} {vl vn : Value} (ho : o = some st) (hb : Below B w w') (hR : OwnT w' R t (cells st vl vn)) (hS : StV w' B vl vn st.l st.now) : LineP t B R w o (.returned (.bool true)) w' := by
  subst ho
  exact ⟨rfl, hb, fun st' h => by cases h; exact ⟨vl, vn, hR, hS⟩⟩
theorem ty_ne {w : World} {ad : Addr} {R : Nat} {t u : TypeId} {cs : List Value} (h : TyB w (some ad) t) (hR : OwnT w R u cs) (hn : t ≠ u) : ad.block ≠ R := by
  obtain ⟨cur, fz, h1⟩ := h ad rfl
  rintro rfl
  rw [hR] at h1
  simp only [Option.some.injEq, Obj.cells.injEq] at h1
  exact hn h1.2.1.symm

set_option maxHeartbeats 4000000 in
set_option maxRecDepth 100000 in
theorem rd_line (B R : Nat) (st : St) (vl vn : Value) (s : List UInt8) (w : World) (hBR : B ≤ R) (hR : OwnT w R 43 (cells st vl vn)) (hS : StV w B vl vn st.l st.now) (hf : st.Fine) (hb1 : st.now.length ≤ 1099514576896) (hb2 : st.l.length ≤ 1099514576896) (hl : s.length ≤ 67108864) :
    Calls Tryd.prog 20 #[.pointer (some ⟨R, 0, none⟩), .string ⟨s.toArray⟩] w (LineP 43 B R w (stL st s)) := by
  have hBw : B ≤ w.heap.size := by
    have := (Array.getElem?_eq_some_iff.1 hR).1
    omega
  have HWd := Lib.hid (words s w hl)
  have HPf := Lib.hid (fun W => hasPrefix_ s W)
  have hwl : (wds s).length ≤ s.length + 1 := wdsQ_length blank s
  have HL := Lib.hid (show ∀ x ∈ wds s, x.length ≤ 67108864 from fun x hx => Nat.le_trans (wds_le s x hx) hl)
  have hz := str_size s
  have hspec : stL st s = if isC s = true ∨ (wds s).length = 0 then some st else if st.head then stWs st (wds s) else headW (wds s) := rfl
  generalize stL st s = o at *
  generalize isC s = ic at *
  generalize wds s = ws at *
  generalize (⟨s.toArray⟩ : ByteArray) = S at *
  have HR := Lib.hid hR
  have HS := Lib.hid hS
  have HSp := Lib.hid hspec
  clear hspec hR hS
  go_enter Tryd.func20, Tryd.ntmps20
  go_wp2_with fail
  refine HWd.out.mono ?_
  rintro e W1 ⟨A, c, rfl, hac, hr, q1⟩
  have HW := Lib.hid hr
  have HB := Lib.hid (q1.mono hBw)
  replace HR := Lib.hid (HR.out.keep (KeepT.below q1))
  replace HS := Lib.hid (HS.out.below q1)
  clear hr q1 HWd
  go_wp2_with fail
  refine (HPf.out _).mono ?_
  rintro e W2 ⟨rfl, rfl⟩
  clear HPf
  cases hic : ic with
  | true =>
    have ho := Lib.hid (HSp.out.trans (if_pos (Or.inl hic)))
    clear HSp
    go_wp2
    go_ret
    exact line_yes ho.out HB.out HR.out HS.out
  | false =>
    by_cases hw0 : ws.length = 0
    · have hw0' : ((ws.length : Int) == 0) = true := by rw [hw0]; rfl
      have ho := Lib.hid (HSp.out.trans (if_pos (Or.inr hw0)))
      clear HSp
      go_wp2
      go_ret
      exact line_yes ho.out HB.out HR.out HS.out
    · have hw0' : ((ws.length : Int) == 0) = false := by rw [beq_eq_false_iff_ne]; omega
      have ho := Lib.hid (HSp.out.trans (if_neg (by rintro (h | h); rw [hic] at h; cases h; exact hw0 h)))
      clear HSp
      have c0 := HR.out.cellN 0 rfl
      have hfn := Lib.hid hf.none
      have hfm := Lib.hid hf
      clear hf
      cases hh : st.head with
      | false =>
        rw [hh, if_neg (by decide)] at ho
        have hh0 := hfn.out hh
        by_cases h4 : ws.length = 4
        · have h4' : ((ws.length : Int) == 4) = true := by rw [beq_iff_eq]; omega
          obtain ⟨p, cc, a, b, hws⟩ : ∃ p cc a b, ws = [p, cc, a, b] := by
            match ws, h4 with
            | [p, cc, a, b], _ => exact ⟨p, cc, a, b, rfl⟩
          have hLp := HL.out
          obtain ⟨ad, rfl, x0⟩ := Knd.at_str HW.out.1 0 (by omega)
          obtain ⟨_, e1, x1⟩ := Knd.at_str HW.out.1 1 (by omega)
          obtain rfl := Option.some.inj e1
          obtain ⟨_, e2, x2⟩ := Knd.at_str HW.out.1 2 (by omega)
          obtain rfl := Option.some.inj e2
          obtain ⟨_, e3, x3⟩ := Knd.at_str HW.out.1 3 (by omega)
          obtain rfl := Option.some.inj e3
          have g0 : ws[0] = p := by simp only [hws]; rfl
          have g1 : ws[1] = cc := by simp only [hws]; rfl
          have g2 : ws[2] = a := by simp only [hws]; rfl
          have g3 : ws[3] = b := by simp only [hws]; rfl
          rw [g0] at x0
          replace x0 : W2.cell? ad = some (.string ⟨p.toArray⟩) := x0
          rw [g1] at x1
          replace x1 : W2.cell? ⟨ad.block, ad.off + 1, none⟩ = some (.string ⟨cc.toArray⟩) := x1
          rw [g2] at x2
          replace x2 : W2.cell? ⟨ad.block, ad.off + 2, none⟩ = some (.string ⟨a.toArray⟩) := x2
          rw [g3] at x3
          replace x3 : W2.cell? ⟨ad.block, ad.off + 3, none⟩ = some (.string ⟨b.toArray⟩) := x3
          have hsp : o = if p = [112] ∧ cc = [99, 110, 102] ∧ numOk a = true ∧ numOk b = true ∧ 0 ≤ numV a ∧ 0 ≤ numV b then some ⟨true, numV a, numV b, [], [], false⟩ else none := by rw [ho.out, hws]; rfl
          have HSp := Lib.hid hsp
          have HNa := Lib.hid (fun W => number a W (hLp a (by rw [hws]; simp)))
          have HNb := Lib.hid (fun W => number b W (hLp b (by rw [hws]; simp)))
          have hadR : ad.block ≠ R := ty_ne HW.out.2 HR.out (by decide)
          clear e1 e2 e3 g0 g1 g2 g3 hsp ho hws hLp HL HW
          have hP : (⟨p.toArray⟩ : ByteArray).toList = p := ByteArray.toList_mk p
          have hC : (⟨cc.toArray⟩ : ByteArray).toList = cc := ByteArray.toList_mk cc
          generalize (⟨p.toArray⟩ : ByteArray) = P at *
          generalize (⟨cc.toArray⟩ : ByteArray) = C at *
          by_cases hp : p = [112]
          · have hp' : (P.toList == [112]) = true := by rw [hP]; simpa using hp
            by_cases hc : cc = [99, 110, 102]
            · have hc' : (C.toList == [99, 110, 102]) = true := by rw [hC]; simpa using hc
              replace HSp := Lib.hid (show o = if numOk a = true ∧ numOk b = true ∧ 0 ≤ numV a ∧ 0 ≤ numV b then some ⟨true, numV a, numV b, [], [], false⟩ else none from HSp.out.trans (by simp only [hp, hc, true_and]))
              have hva := numV_bound a
              have hvb := numV_bound b
              clear hP hC hp hc
              generalize numV a = va at *
              generalize numOk a = oa at *
              generalize numV b = vb at *
              generalize numOk b = ob at *
              generalize (⟨a.toArray⟩ : ByteArray) = Sa at *
              generalize (⟨b.toArray⟩ : ByteArray) = Sb at *
              go_wp2_with fail
              refine (HNa.out _).mono ?_
              rintro e W3 ⟨rfl, q1⟩
              replace x3 := cell_below q1 x3
              replace HB := Lib.hid (HB.out.trans (q1.mono (Nat.le_trans hBw HB.out.size)))
              replace HR := Lib.hid (HR.out.keep (KeepT.below q1))
              replace HS := Lib.hid (HS.out.below q1)
              clear q1 HNa x0 x1 x2 c0
              have c1 := HR.out.cellN 1 rfl
              have f1 := HR.out.own.frozen 1
              have HR2 := Lib.hid (HR.out.set 1 (.int .i64 va))
              have HS2 := Lib.hid (HS.out.keep (KeepT.set HR.out (by decide) 1 (.int .i64 va)) (KeepT.set HR.out (by decide) 1 (.int .i64 va)))
              have HB2 := Lib.hid (HB.out.trans (show Below B W3 (W3.setCell ⟨R, 1, none⟩ (.int .i64 va)) from (Below.refl _ _).setCell hBR _))
              go_wp2_with fail
              refine (HNb.out _).mono ?_
              rintro e W4 ⟨rfl, q1⟩
              replace HB := Lib.hid (HB2.out.trans (q1.mono (Nat.le_trans hBw HB2.out.size)))
              replace HR := Lib.hid (HR2.out.keep (KeepT.below q1))
              replace HS := Lib.hid (HS2.out.below q1)
              clear q1 HNb HR2 HS2 HB2 c1 f1 x3
              have c1 := HR.out.cellN 1 rfl
              have c2 := HR.out.cellN 2 rfl
              have c0 := HR.out.cellN 0 rfl
              have f0 := HR.out.own.frozen 0
              have f2 := HR.out.own.frozen 2
              have HR2 := Lib.hid ((HR.out.set 2 (.int .i64 vb)).set 0 (.bool true))
              have k1 : KeepT 3 W4 ((W4.setCell ⟨R, 2, none⟩ (.int .i64 vb)).setCell ⟨R, 0, none⟩ (.bool true)) := (KeepT.set HR.out (by decide) _ _).trans (KeepT.set (HR.out.set 2 (.int .i64 vb)) (by decide) _ _)
              have k2 : KeepT 32 W4 ((W4.setCell ⟨R, 2, none⟩ (.int .i64 vb)).setCell ⟨R, 0, none⟩ (.bool true)) := (KeepT.set HR.out (by decide) _ _).trans (KeepT.set (HR.out.set 2 (.int .i64 vb)) (by decide) _ _)
              have HS2 := Lib.hid (HS.out.keep k1 k2)
              have HB2 := Lib.hid (HB.out.trans (show Below B W4 ((W4.setCell ⟨R, 2, none⟩ (.int .i64 vb)).setCell ⟨R, 0, none⟩ (.bool true)) from ((Below.refl B W4).setCell hBR (.int .i64 vb)).setCell hBR (.bool true)))
              clear k1 k2
              by_cases hgood : oa = true ∧ ob = true ∧ 0 ≤ va ∧ 0 ≤ vb
              · have ho := Lib.hid (HSp.out.trans (if_pos hgood))
                obtain ⟨rfl, rfl, hva0, hvb0⟩ := hgood
                go_wp2
                go_ret
                refine line_yes ho.out HB2.out (vl := vl) (vn := vn) ?_ ?_
                · have h := HR2.out
                  simp only [List.set, hh0.2.2] at h
                  exact h
                · have h := HS2.out
                  rw [hh0.1, hh0.2.1] at h
                  exact h
              · have ho := Lib.hid (HSp.out.trans (if_neg hgood))
                clear HSp HR HS HB
                cases oa with
                | false =>
                  clear hgood
                  go_wp2
                  go_ret
                  exact line_no ho.out HB2.out
                | true =>
                  cases ob with
                  | false =>
                    clear hgood
                    go_wp2
                    go_ret
                    exact line_no ho.out HB2.out
                  | true =>
                    by_cases hva0 : va < 0
                    · have hva1 : ¬ 0 ≤ va := by omega
                      clear hgood
                      go_wp2
                      go_ret
                      exact line_no ho.out HB2.out
                    · have hva1 : 0 ≤ va := by omega
                      have hvb1 : ¬ 0 ≤ vb := fun h => hgood ⟨rfl, rfl, hva1, h⟩
                      clear hgood
                      go_wp2
                      go_ret
                      exact line_nob (decide_eq_false (by omega)) ho.out HB2.out
            · have hc' : (C.toList == [99, 110, 102]) = false := by rw [hC]; simpa using hc
              have ho := Lib.hid (HSp.out.trans (if_neg (fun h => hc h.2.1)))
              clear HSp HNa HNb hP hC hp hc
              go_wp2
              go_ret
              exact line_no ho.out HB.out
          · have hp' : (P.toList == [112]) = false := by rw [hP]; simpa using hp
            have ho := Lib.hid (HSp.out.trans (if_neg (fun h => hp h.1)))
            clear HSp HNa HNb hP hC hp
            go_wp2
            go_ret
            exact line_no ho.out HB.out
        · have h4' : ((ws.length : Int) == 4) = false := by rw [beq_eq_false_iff_ne]; omega
          have ho2 := Lib.hid (ho.out.trans (show headW ws = none by
            unfold headW
            split
            · rename_i x1 x2 x3 x4
              exact absurd rfl h4
            · rfl))
          clear ho
          go_wp2
          go_ret
          exact line_no ho2.out HB.out
      | true =>
        rw [hh, if_pos rfl] at ho
        clear hfn
        go_wp2
        go_loopg [84] ws.length (fun gg s84 wr => ∃ (i : Nat) (t : St) (vl vn : Value), i ≤ ws.length ∧ ws.length - i ≤ gg ∧ s84 = .int .i64 i ∧ Hid (stWs st (ws.take i) = some t) ∧ Hid (OwnT wr R 43 (cells t vl vn)) ∧ Hid (StV wr B vl vn t.l t.now) ∧ Hid (StrR 9 wr A ws) ∧ Hid (Below B w wr))
        case atStart => exact ⟨0, st, vl, vn, Nat.zero_le _, by omega, rfl, rfl, HR, HS, HW, HB⟩
        case round =>
          clear HR HS HW HB
          obtain ⟨i, t, vl, vn, hi, hg, rfl, HT, HR, HS, HW, HB⟩ := hrel
          have htf := stWs_fine HT.out hfm.out hh
          have hnow : t.now.length ≤ 1099600000000 := by have h1 := htf.2.2.1; rw [List.length_take] at h1; omega
          have hll : t.l.length ≤ 1099600000000 := by have h1 := htf.2.2.2; rw [List.length_take] at h1; omega
          clear htf
          by_cases hlt : i < ws.length
          · have hltz : (i : Int) < (ws.length : Int) := by omega
            obtain ⟨ad, rfl, x0⟩ := Knd.at_str HW.out.1 i hlt
            have hxl := HL.out ws[i] (List.getElem_mem hlt)
            have HStep := Lib.hid (stWs_take hlt HT.out)
            have HStop := Lib.hid (stWs_stop hlt HT.out)
            have hstW : stW t ws[i] = if numOk ws[i] = false ∨ t.atoms < ((numV ws[i]).natAbs : Int) then none
              else if numV ws[i] ≠ 0 then some ⟨t.head, t.atoms, t.many, t.l, t.now ++ [numV ws[i]], true⟩
              else if (t.l.length : Int) = t.many then none
              else some ⟨t.head, t.atoms, t.many, t.l ++ [t.now], [], false⟩ := rfl
            have HN := Lib.hid (fun W => number ws[i] W hxl)
            have hvb := numV_bound ws[i]
            generalize stW t ws[i] = ot at *
            have HstW := Lib.hid hstW
            clear hstW hxl HT
            generalize numV ws[i] = nv at *
            generalize numOk ws[i] = nok at *
            generalize (⟨ws[i].toArray⟩ : ByteArray) = X at *
            have hBr : B ≤ wr.heap.size := Nat.le_trans hBw HB.out.size
            go_wp2_with fail
            refine (HN.out _).mono ?_
            rintro e W3 ⟨rfl, q1⟩
            replace HB := Lib.hid (HB.out.trans (q1.mono hBr))
            replace HR := Lib.hid (HR.out.keep (KeepT.below q1))
            replace HS := Lib.hid (HS.out.below q1)
            replace HW := Lib.hid (HW.out.keep (KeepT.below q1))
            clear q1 HN x0 hBr
            have c1 := HR.out.cellN 1 rfl
            have hAx := fun W => atom9 nv hvb.1 hvb.2 W
            cases nok with
            | false =>
              have hon := Lib.hid (HStop.out (HstW.out.trans (if_pos (Or.inl rfl))))
              clear HStep HStop HstW hAx
              go_wp2_with fail
              go_quiet (fail)
              go_wp2
              go_ret
              exact line_no (ho.out.trans hon.out) (below_drewN HB.out _)
            | true =>
              by_cases hat : t.atoms < (nv.natAbs : Int)
              · have hon := Lib.hid (HStop.out (HstW.out.trans (if_pos (Or.inr hat))))
                clear HStep HStop HstW
                go_wp2_with fail
                go_quiet (first | (go_at_call 15; refine Calls.quiet_of_same (hAx _)))
                go_wp2
                go_ret
                exact line_no (ho.out.trans hon.out) (below_drewN HB.out _)
              · replace HstW := Lib.hid (HstW.out.trans (if_neg (by rintro (h | h); cases h; exact hat h)))
                go_wp2_with fail
                go_quiet (first | (go_at_call 15; refine Calls.quiet_of_same (hAx _)))
                clear hAx
                obtain ⟨W4, hW4⟩ : ∃ W4, W4 = W3.drewN nq := ⟨_, rfl⟩
                rw [← hW4]
                have q1 : Below W3.heap.size W3 W4 := hW4 ▸ below_drewN (Below.refl _ _) nq
                clear hW4
                replace HB := Lib.hid (HB.out.trans (q1.mono (Nat.le_trans hBw HB.out.size)))
                replace HR := Lib.hid (HR.out.keep (KeepT.below q1))
                replace HS := Lib.hid (HS.out.below q1)
                replace HW := Lib.hid (HW.out.keep (KeepT.below q1))
                clear q1 c1 c0
                have hBr : B ≤ W4.heap.size := Nat.le_trans hBw HB.out.size
                obtain ⟨⟨Al, cl, rfl, hal, hcl⟩, An, cn, rfl, han, hcn⟩ := HS.out.form
                by_cases hnz : nv ≠ 0
                · have hnz' : (nv != 0) = true := by simpa using hnz
                  replace HstW := Lib.hid (HstW.out.trans (if_pos hnz))
                  have HT2 := Lib.hid (HStep.out.trans HstW.out)
                  clear HStep HStop HstW
                  have c4 := HR.out.cellN 4 rfl
                  obtain ⟨v', W5, hrun, hS5, hb5, hk5⟩ := HS.out.push nv (by omega)
                  obtain ⟨_, A5, c5, rfl, h5a, h5b⟩ := hS5.form
                  have HP := Lib.hid hrun
                  have HR5 := Lib.hid (HR.out.keep (hk5 43 (by decide)))
                  have c4' := HR5.out.cellN 4 rfl
                  have c5' := HR5.out.cellN 5 rfl
                  have f4 := HR5.out.own.frozen 4
                  have f5 := HR5.out.own.frozen 5
                  have HRn := Lib.hid ((HR5.out.set 4 (.slice A5 (t.now ++ [nv]).length c5)).set 5 (.bool true))
                  have hkk : ∀ u, u ≠ 43 → KeepT u W5 ((W5.setCell ⟨R, 4, none⟩ (.slice A5 (t.now ++ [nv]).length c5)).setCell ⟨R, 5, none⟩ (.bool true)) := fun u hu => (KeepT.set HR5.out hu _ _).trans (KeepT.set (HR5.out.set 4 _) hu _ _)
                  have HSn := Lib.hid (hS5.keep (hkk _ (by decide)) (hkk _ (by decide)))
                  have HWn := Lib.hid ((HW.out.keep (hk5 _ (by decide))).keep (hkk _ (by decide)))
                  have HBn := Lib.hid ((HB.out.trans hb5).trans (show Below B W5 ((W5.setCell ⟨R, 4, none⟩ (.slice A5 (t.now ++ [nv]).length c5)).setCell ⟨R, 5, none⟩ (.bool true)) from ((Below.refl B W5).setCell hBR _).setCell hBR _))
                  clear hrun hS5 hb5 hk5 hkk HR5 HS HW HB HR
                  generalize t.now ++ [nv] = now2 at *
                  go_wp2_with (refine pushL_ rfl rfl rfl rfl HP.out ?_; clear HP)
                  go_roundg (ws.length - (i + 1))
                  case measure => omega
                  case rel => exact ⟨i + 1, ⟨t.head, t.atoms, t.many, t.l, now2, true⟩, .slice Al t.l.length cl, .slice A5 now2.length c5, by omega, by omega, by go_num, HT2, HRn, HSn, HWn, HBn⟩
                · have hnz' : (nv != 0) = false := by simpa using hnz
                  replace HstW := Lib.hid (HstW.out.trans (if_neg hnz))
                  have c3 := HR.out.cellN 3 rfl
                  have c2 := HR.out.cellN 2 rfl
                  by_cases hfull : (t.l.length : Int) = t.many
                  · have hfull' : ((t.l.length : Int) == t.many) = true := by simpa using hfull
                    have hon := Lib.hid (HStop.out (HstW.out.trans (if_pos hfull)))
                    clear HStep HStop HstW
                    go_wp2_with fail
                    go_quiet (fail)
                    go_wp2
                    go_ret
                    exact line_no (ho.out.trans hon.out) (below_drewN HB.out _)
                  · have hfull' : ((t.l.length : Int) == t.many) = false := by simpa using hfull
                    have HT2 := Lib.hid (HStep.out.trans (HstW.out.trans (if_neg hfull)))
                    clear HStep HStop HstW
                    go_wp2_with fail
                    go_quiet (fail)
                    obtain ⟨W5, hW5⟩ : ∃ W5, W5 = W4.drewN nq := ⟨_, rfl⟩
                    rw [← hW5]
                    have q1 : Below W4.heap.size W4 W5 := hW5 ▸ below_drewN (Below.refl _ _) nq
                    clear hW5
                    replace HB := Lib.hid (HB.out.trans (q1.mono hBr))
                    replace HR := Lib.hid (HR.out.keep (KeepT.below q1))
                    replace HS := Lib.hid (HS.out.below q1)
                    replace HW := Lib.hid (HW.out.keep (KeepT.below q1))
                    have HF := Lib.hid (LpAt.mk HR.out HS.out HW.out HB.out)
                    clear q1 c2 c3 HR HS HW HB
                    generalize W5 = W at *
                    go_wp2_with fail
                    have HF_ := Lib.hid HF.out.drew
                    clear HF
                    have HF := HF_
                    clear HF_
                    refine start_ (n := 14) (S := fun w' => w'.cell? ⟨R, 0, none⟩ = some (.bool t.head) ∧ w'.cell? ⟨R, 1, none⟩ = some (.int .i64 t.atoms) ∧ w'.cell? ⟨R, 2, none⟩ = some (.int .i64 t.many) ∧ w'.cell? ⟨R, 3, none⟩ = some (.slice Al t.l.length cl) ∧ w'.cell? ⟨R, 4, none⟩ = some (.slice An t.now.length cn) ∧ w'.cell? ⟨R, 5, none⟩ = some (.bool t.opn)) (ds := [10, 13]) #[false, false, false, false, false, false, false, false, false, false, false, false, false, false] (by kernel_rfl) rfl rfl ⟨HF.out.cellN 0 rfl 0 rfl, HF.out.cellN 0 rfl 1 rfl, HF.out.cellN 0 rfl 2 rfl, HF.out.cellN 0 rfl 3 rfl, HF.out.cellN 0 rfl 4 rfl, HF.out.cellN 0 rfl 5 rfl⟩ (fun hHeld => ?_)
                    generalize World.drew _ = W at *
                    refine pure_ (i := 0) (N := (some 129)) (v := ?_) (a' := ?_) #[true, false, false, false, false, false, false, false, false, false, false, false, false, false] rfl rfl (by kernel_rfl) (fun _ _ _ h => h) (Or.inl ⟨by rfl, ?_⟩) ?_ ?_
                    rotate_left
                    · intro w'
                      go_simp
                      with_reducible rfl
                    rotate_left
                    · simp only [Act.put, List.setIfInBounds_toArray, List.set_cons_zero, List.set_cons_succ]
                      rfl
                    refine pure_ (i := 1) (N := (some 130)) (v := ?_) (a' := ?_) #[true, true, false, false, false, false, false, false, false, false, false, false, false, false] rfl rfl (by kernel_rfl) (fun _ _ _ h => h) (Or.inl ⟨by rfl, ?_⟩) ?_ ?_
                    rotate_left
                    · intro w'
                      go_simp
                      with_reducible rfl
                    rotate_left
                    · simp only [Act.put, List.setIfInBounds_toArray, List.set_cons_zero, List.set_cons_succ]
                      rfl
                    refine pure_ (i := 2) (N := (some 131)) (v := ?_) (a' := ?_) #[true, true, true, false, false, false, false, false, false, false, false, false, false, false] rfl rfl (by kernel_rfl) (fun _ _ _ h => h) (Or.inl ⟨by rfl, ?_⟩) ?_ ?_
                    rotate_left
                    · intro w'
                      go_simp
                      with_reducible rfl
                    rotate_left
                    · simp only [Act.put, List.setIfInBounds_toArray, List.set_cons_zero, List.set_cons_succ]
                      rfl
                    refine pure_ (i := 3) (N := (some 132)) (v := ?_) (a' := ?_) #[true, true, true, true, false, false, false, false, false, false, false, false, false, false] rfl rfl (by kernel_rfl) (fun _ _ _ h => h) (Or.inl ⟨by rfl, ?_⟩) ?_ ?_
                    rotate_left
                    · intro w'
                      go_simp
                      with_reducible rfl
                    rotate_left
                    · simp only [Act.put, List.setIfInBounds_toArray, List.set_cons_zero, List.set_cons_succ]
                      rfl
                    refine pure_ (i := 5) (N := (some 134)) (v := ?_) (a' := ?_) #[true, true, true, true, false, true, false, false, false, false, false, false, false, false] rfl rfl (by kernel_rfl) (fun _ _ _ h => h) (Or.inl ⟨by rfl, ?_⟩) ?_ ?_
                    rotate_left
                    · intro w'
                      go_simp
                      with_reducible rfl
                    rotate_left
                    · simp only [Act.put, List.setIfInBounds_toArray, List.set_cons_zero, List.set_cons_succ]
                      rfl
                    refine pure_ (i := 6) (N := (some 135)) (v := ?_) (a' := ?_) #[true, true, true, true, false, true, true, false, false, false, false, false, false, false] rfl rfl (by kernel_rfl) (fun _ _ _ h => h) (Or.inl ⟨by rfl, ?_⟩) ?_ ?_
                    rotate_left
                    · intro w'
                      go_simp
                      with_reducible rfl
                    rotate_left
                    · simp only [Act.put, List.setIfInBounds_toArray, List.set_cons_zero, List.set_cons_succ]
                      rfl
                    refine pure_ (i := 7) (N := (some 136)) (v := ?_) (a' := ?_) #[true, true, true, true, false, true, true, true, false, false, false, false, false, false] rfl rfl (by kernel_rfl) (fun _ _ _ h => h) (Or.inl ⟨by rfl, ?_⟩) ?_ ?_
                    rotate_left
                    · intro w'
                      go_simp
                      with_reducible rfl
                    rotate_left
                    · simp only [Act.put, List.setIfInBounds_toArray, List.set_cons_zero, List.set_cons_succ]
                      rfl
                    refine take_ (i := 4) (N := (some 133)) (v := ?_) (a' := ?_) #[true, true, true, true, true, true, true, true, false, false, false, false, false, false] rfl rfl (by kernel_rfl) (fun _ _ _ h => h) (Or.inl ⟨by rfl, ?_⟩) hHeld ?_ ?_
                    rotate_left
                    · rintro w' ⟨s0, s1, s2, s3, s4, s5⟩
                      go_simp
                      with_reducible rfl
                    rotate_left
                    · simp only [Act.put, List.setIfInBounds_toArray, List.set_cons_zero, List.set_cons_succ]
                      rfl
                    refine take_ (i := 8) (N := (some 137)) (v := ?_) (a' := ?_) #[true, true, true, true, true, true, true, true, true, false, false, false, false, false] rfl rfl (by kernel_rfl) (fun _ _ _ h => h) (Or.inl ⟨by rfl, ?_⟩) hHeld ?_ ?_
                    rotate_left
                    · rintro w' ⟨s0, s1, s2, s3, s4, s5⟩
                      go_simp
                      with_reducible rfl
                    rotate_left
                    · simp only [Act.put, List.setIfInBounds_toArray, List.set_cons_zero, List.set_cons_succ]
                      rfl
                    refine one_ (i := 9) (N := (some 138)) #[true, true, true, true, true, true, true, true, true, true, false, false, false, false] rfl rfl (by kernel_rfl) (by decide) (fun K hK => ?_)
                    refine value_ (v := ?_) (w1 := ?_) (by rfl) rfl ?_ ?_
                    rotate_left
                    rotate_left
                    · go_simp
                      first | rfl | (refine ⟨?_, ?_⟩ <;> rfl)
                    have HG := HF
                    replace HF := Lib.hid (HF.out.below hBw ((Below.refl _ W).alloc (Nat.le_refl _) (.cells #[.slice An t.now.length cn] 32)))
                    refine hK.out _ _ ⟨HF.out.cellN 0 rfl 0 rfl, HF.out.cellN 0 rfl 1 rfl, HF.out.cellN 0 rfl 2 rfl, HF.out.cellN 0 rfl 3 rfl, HF.out.cellN 0 rfl 4 rfl, HF.out.cellN 0 rfl 5 rfl⟩ (fun hHeld => ?_)
                    clear hK K
                    refine norm_ (a' := ?_) ?_ ?_
                    rotate_left
                    · show Act.put _ (some 138) _ = _
                      simp only [Act.put, List.setIfInBounds_toArray, List.set_cons_zero, List.set_cons_succ]
                      rfl
                    refine last_ (i := 10) (N := (some 139)) #[true, true, true, true, true, true, true, true, true, true, true, false, false, false] rfl rfl (by kernel_rfl) (by decide) (fun K hK => ?_)
                    obtain ⟨v_, W1, hpush, hS5, hb5, hk5⟩ := HG.out.st.seal (by omega)
                    refine push_ (by rfl) rfl rfl rfl rfl hpush ?_
                    clear hpush
                    obtain ⟨⟨A5, c5, rfl, h5a, h5b⟩, _⟩ := hS5.form
                    have HR5 := Lib.hid (HG.out.own.keep (hk5 43 (by decide)))
                    have HS5 := Lib.hid hS5
                    have HW5 := Lib.hid (HG.out.ws.keep (hk5 _ (by decide)))
                    have HB5 := Lib.hid (HG.out.bel.trans hb5)
                    clear hS5 hb5 hk5 HG HF
                    generalize t.l ++ [t.now] = l2 at *
                    refine hK.out _ _ ?_
                    clear hK K
                    refine norm_ (a' := ?_) ?_ ?_
                    rotate_left
                    · show Act.put _ (some 139) _ = _
                      simp only [Act.put, List.setIfInBounds_toArray, List.set_cons_zero, List.set_cons_succ]
                      rfl
                    refine pure_ (i := 11) (N := (some 140)) (v := ?_) (a' := ?_) #[true, true, true, true, true, true, true, true, true, true, true, true, false, false] rfl rfl (by kernel_rfl) (fun _ _ _ h => h) (Or.inl ⟨by rfl, ?_⟩) ?_ ?_
                    rotate_left
                    · intro w'
                      go_simp
                      with_reducible rfl
                    rotate_left
                    · simp only [Act.put, List.setIfInBounds_toArray, List.set_cons_zero, List.set_cons_succ]
                      rfl
                    refine pure_ (i := 12) (N := (some 141)) (v := ?_) (a' := ?_) #[true, true, true, true, true, true, true, true, true, true, true, true, true, false] rfl rfl (by kernel_rfl) (fun _ _ _ h => h) (Or.inl ⟨by rfl, ?_⟩) ?_ ?_
                    rotate_left
                    · intro w'
                      go_simp
                      with_reducible rfl
                    rotate_left
                    · simp only [Act.put, List.setIfInBounds_toArray, List.set_cons_zero, List.set_cons_succ]
                      rfl
                    refine last_ (i := 13) (N := none) #[true, true, true, true, true, true, true, true, true, true, true, true, true, true] rfl rfl (by kernel_rfl) (by decide) (fun K hK => ?_)
                    have hf := HR5.out.own.frozen 3
                    have hd := HR5.out.cellN 3 rfl
                    refine skip_ (w1 := ?_) (by rfl) rfl ?_ ?_
                    rotate_left
                    · go_simp
                      rfl
                    refine hK.out _ _ ?_
                    clear hK K
                    refine done_ (by kernel_rfl) ?_
                    have c4 := HR5.out.cellN 4 rfl
                    have c5' := HR5.out.cellN 5 rfl
                    have f4 := HR5.out.own.frozen 4
                    have f5 := HR5.out.own.frozen 5
                    have HRn := Lib.hid (((HR5.out.set 3 (.slice A5 l2.length c5)).set 4 (.slice none 0 0)).set 5 (.bool false))
                    have hkk : ∀ u, u ≠ 43 → KeepT u W1 (((W1.setCell ⟨R, 3, none⟩ (.slice A5 l2.length c5)).setCell ⟨R, 4, none⟩ (.slice none 0 0)).setCell ⟨R, 5, none⟩ (.bool false)) := fun u hu => ((KeepT.set HR5.out hu _ _).trans (KeepT.set (HR5.out.set 3 _) hu _ _)).trans (KeepT.set ((HR5.out.set 3 _).set 4 _) hu _ _)
                    have HSn := Lib.hid (HS5.out.keep (hkk _ (by decide)) (hkk _ (by decide)))
                    have HWn := Lib.hid (HW5.out.keep (hkk _ (by decide)))
                    have HBn := Lib.hid (HB5.out.trans (show Below B W1 (((W1.setCell ⟨R, 3, none⟩ (.slice A5 l2.length c5)).setCell ⟨R, 4, none⟩ (.slice none 0 0)).setCell ⟨R, 5, none⟩ (.bool false)) from (((Below.refl B W1).setCell hBR _).setCell hBR _).setCell hBR _))
                    clear hkk HR5 HS5 HW5 HB5
                    go_wp2
                    go_roundg (ws.length - (i + 1))
                    case measure => omega
                    case rel => exact ⟨i + 1, ⟨t.head, t.atoms, t.many, l2, [], false⟩, .slice A5 l2.length c5, .slice none 0 0, by omega, by omega, by go_num, HT2, HRn, HSn, HWn, HBn⟩
          · have hltz : ¬ (i : Int) < (ws.length : Int) := by omega
            have hT := HT.out
            rw [List.take_of_length_le (by omega)] at hT
            have hT2 := Lib.hid (ho.out.trans hT)
            clear hT HT
            go_wp2
            go_ret
            exact line_yes hT2.out HB.out HR.out HS.out
end Go.Proofs.YtafmomlgkehdfaaDoor.F
