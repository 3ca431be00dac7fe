/- The reference's Dimacs tells the same text. -/
import Derived.Test.YtafmomlgkehdfaaDoorDdm
set_option linter.unusedVariables false
set_option linter.unusedSimpArgs false
namespace Go.Proofs.YtafmomlgkehdfaaDoor.F
open Go.RowKit Go.Shelf

set_option maxHeartbeats 4000000 in
set_option maxRecDepth 100000 in
theorem ref_Dimacs (a : Int) (ha : inI a) (l : List (List Int)) (hx : ∀ c ∈ l, ∀ x ∈ c, inI x) (C : Option Addr) (k : Nat) (w : World) (hX : (Knd.int .i64).slice.Row w C l) (hm : l.length ≤ 1048576) (hmc : ∀ c ∈ l, c.length ≤ 1048576) :
    Calls Tryd.prog 7 #[.int .i64 a, .slice C l.length k] w fun e w' => e = .returned (dimV a l) ∧ Below w.heap.size w w' := by
  have HX := Lib.hid hX
  have HI := Lib.hid hx
  have HM := Lib.hid hmc
  clear hX hx hmc
  obtain ⟨ha0, ha1⟩ := ha
  obtain ⟨dv, hdv⟩ : ∃ dv, dv = dimV a l := ⟨_, rfl⟩
  rw [← hdv]
  have HV := Lib.hid hdv
  clear hdv
  have HI8 := Lib.hid (show (Tryd.prog.info? 5).map (fun i => (i.zero, i.size, i.bytes)) = some (some (.int .u8 0), 1, 1) by kernel_rfl)
  have HB := Lib.hid (Below.refl w.heap.size w)
  go_enter Tryd.func7, Tryd.ntmps7
  by_cases hneg : a < 0
  · have hv := Lib.hid (HV.out.trans (dimV_neg (l := l) hneg))
    go_wp2
    go_ret2
    rw [hv.out]
    exact ⟨rfl, HB.out⟩
  · have hI1 := Lib.hid (fun (W : World) => r18_decimal a W ha0 ha1)
    have hI2 := Lib.hid (fun (W : World) => r18_decimal (l.length : Int) W (by omega) (by omega))
    have hla := Lib.itoa_length_le a ha0 ha1
    have hlb := Lib.itoa_length_le (l.length : Int) (by omega) (by omega)
    go_wp2_with fail
    refine (hI1.out _).mono ?_
    rintro e W1 ⟨rfl, q1⟩
    replace HB := Lib.hid (HB.out.trans (q1.mono HB.out.size))
    clear q1 hI1
    go_wp2_with fail
    refine (hI2.out _).mono ?_
    rintro e W2 ⟨rfl, q1⟩
    replace HB := Lib.hid (HB.out.trans (q1.mono HB.out.size))
    clear q1 hI2
    obtain ⟨hd, hhd⟩ : ∃ hd, hd = htxt a l.length := ⟨_, rfl⟩
    have hs1 : (⟨#[112, 32, 99, 110, 102, 32]⟩ : ByteArray) ++ ⟨(Lib.itoa a).toArray⟩ ++ ⟨#[32]⟩ ++ ⟨(Lib.itoa (l.length : Int)).toArray⟩ ++ ⟨#[10]⟩ = ⟨hd.toArray⟩ := by
      rw [hhd, show (⟨#[112, 32, 99, 110, 102, 32]⟩ : ByteArray) = ⟨[112, 32, 99, 110, 102, 32].toArray⟩ from rfl, show (⟨#[32]⟩ : ByteArray) = ⟨[32].toArray⟩ from rfl, show (⟨#[10]⟩ : ByteArray) = ⟨[10].toArray⟩ from rfl, str_append, str_append, str_append, str_append]
      rfl
    have hdl : hd.length ≤ 100 := by
      rw [hhd]; unfold htxt; simp; omega
    have HD := Lib.hid hhd
    clear hhd
    have hsz : (⟨hd.toArray⟩ : ByteArray).size = hd.length := by show hd.toArray.size = _; simp
    have hcv := fun (W : World) => Lib.run_convert_string_bytes (P := Tryd.prog) W 9 38 5 ⟨hd.toArray⟩ Tryd.underlying9 Tryd.underlying38 Tryd.underlying5
    rw [hsz] at hcv
    clear hsz
    go_wp2
    clear hs1 hla hlb hcv
    obtain ⟨hO0, hB0⟩ := ownB_conv W2 5 hd (by simp [maxLen]; omega) HB.out.size
    have HO0 := Lib.hid hO0
    replace HB := Lib.hid (HB.out.trans (hB0.mono HB.out.size))
    clear hO0 hB0
    generalize grownCap W2 hd.length 0 5 = j0 at *
    generalize hE0 : some (⟨W2.heap.size, 0, none⟩ : Addr) = E0 at *
    clear hE0
    generalize Lib.bytesWorld W2 5 ⟨hd.toArray⟩ = W at *
    obtain ⟨W0, hW0⟩ : ∃ X, X = W := ⟨_, rfl⟩
    subst hW0
    go_loopg [6, 7] l.length (fun gg s6 s7 wr => ∃ (i : Nat) (t : List UInt8) (E : Option Addr) (j : Nat), i ≤ l.length ∧ l.length - i ≤ gg ∧ s6 = .slice E t.length j ∧ s7 = .int .i64 i ∧ t.length ≤ 100 + i * 23068674 ∧ Hid (OwnB wr w.heap.size 5 (.slice E t.length j) t) ∧ Hid (Below w.heap.size w wr) ∧ Hid (t = hd ++ (l.take i).flatMap ctxt) ∧ Hid (∀ j (h : j < l.length), j < i → clOk a l[j] = true))
    case atStart => exact ⟨0, hd, E0, j0, Nat.zero_le _, by omega, rfl, rfl, by omega, HO0, HB, (show Hid _ from (by simp : hd = hd ++ (l.take 0).flatMap ctxt)), fun j h1 h2 => by omega⟩
    case round =>
      obtain ⟨i, t, E, j, hi, hg, rfl, rfl, htl, HOw, HB, HS, HO⟩ := hrel
      obtain ⟨U, hU⟩ : ∃ X, X = wr := ⟨_, rfl⟩
      subst hU
      by_cases hlt : i < l.length
      · have hltz : (i : Int) < (l.length : Int) := by omega
        have hAt := Lib.hid (fun (W : World) (hb : Below w.heap.size w W) => Knd.at_slice (HX.out.below hb) i hlt)
        have hmem : l[i] ∈ l := List.getElem_mem hlt
        have hcI := Lib.hid (HI.out _ hmem)
        have hcL := HM.out _ hmem
        have hbad := Lib.hid (fun (h : clOk a l[i] = false) => dimV_bad hmem h)
        have hgood := Lib.hid (show clOk a l[i] = true → ∀ j (h : j < l.length), j < i + 1 → clOk a l[j] = true from fun h0 j h h2 => by
          by_cases e : j = i
          · subst e; exact h0
          · exact HO.out j h (by omega))
        have hstep := Lib.hid (show t ++ ctxt l[i] = hd ++ (l.take (i + 1)).flatMap ctxt by rw [flat_take ctxt hlt, HS.out, List.append_assoc])
        clear HO HS hmem
        have hok := Lib.hid (show clOk a l[i] = (lits l[i] && !(l[i].any fun x => decide (a < (x.natAbs : Int)))) from rfl)
        generalize l[i] = c at *
        go_wp2
        go_loopg [6, 8] c.length (fun gg s6 s8 wr => ∃ (m : Nat) (t2 : List UInt8) (E2 : Option Addr) (j2 : Nat), m ≤ c.length ∧ c.length - m ≤ gg ∧ s6 = .slice E2 t2.length j2 ∧ s8 = .int .i64 m ∧ t2.length ≤ t.length + m * 22 ∧ Hid (OwnB wr w.heap.size 5 (.slice E2 t2.length j2) t2) ∧ Hid (Below w.heap.size w wr) ∧ Hid (t2 = t ++ (c.take m).flatMap xtxt) ∧ Hid (∀ q (h : q < c.length), q < m → lit c[q] = true ∧ (c[q].natAbs : Int) ≤ a))
        case atStart => exact ⟨0, t, E, j, Nat.zero_le _, by omega, rfl, rfl, by omega, HOw, HB, (show Hid _ from (by simp : t = t ++ (c.take 0).flatMap xtxt)), fun q h1 h2 => by omega⟩
        case round =>
          obtain ⟨m, t2, E2, j2, hj, hg2, rfl, rfl, ht2, HOw, HB, HS2, HG⟩ := hrel
          obtain ⟨ad, B, c0, rfl, hcell, hcc, hcm, hrow⟩ := hAt.out _ HB.out
          have HR := Lib.hid hrow
          clear hrow
          by_cases hlt2 : m < c.length
          · have hltz2 : (m : Int) < (c.length : Int) := by omega
            obtain ⟨ad2, rfl, hcell2⟩ := Knd.at_int HR.out m hlt2
            have hxm : c[m] ∈ c := List.getElem_mem hlt2
            have hxb := hcI.out c[m] hxm
            have hlx := Lib.itoa_length_le c[m] hxb.1 hxb.2
            have hstep2 := Lib.hid (show t2 ++ xtxt c[m] = t ++ (c.take (m + 1)).flatMap xtxt by rw [flat_take xtxt hlt2, HS2.out, List.append_assoc])
            have hLit := Lib.hid (fun (W : World) => ref_literal c[m] W)
            have hAtm := Lib.hid (fun (h : lit c[m] = true) (W : World) => ref_atom c[m] h hxb.1 hxb.2 W)
            have hno := Lib.hid (show (lit c[m] = false ∨ a < (c[m].natAbs : Int)) → dv = .tuple #[.string ⟨#[]⟩, .int .i64 180] from fun h => HV.out.trans (hbad.out (by
              rw [hok.out]
              rcases h with h | h
              · have : lits c = false := List.all_eq_false.2 ⟨c[m], hxm, by rw [h]; decide⟩
                rw [this]; rfl
              · have : (c.any fun x => decide (a < (x.natAbs : Int))) = true := List.any_eq_true.2 ⟨c[m], hxm, by simpa using h⟩
                rw [this]; simp)))
            have hyes := Lib.hid (show lit c[m] = true → (c[m].natAbs : Int) ≤ a → ∀ q (h : q < c.length), q < m + 1 → lit c[q] = true ∧ (c[q].natAbs : Int) ≤ a from fun h1 h2 q h h3 => by
              by_cases e : q = m
              · subst e; exact ⟨h1, h2⟩
              · exact HG.out q h (by omega))
            clear HG HS2 hxm
            generalize c[m] = x at *
            cases hl : lit x with
            | false =>
              have hv := Lib.hid (hno.out (Or.inl hl))
              rw [hl] at hLit
              clear hAtm hyes hno hl
              go_wp2_with fail
              refine (hLit.out _).mono ?_
              rintro e W3 ⟨rfl, rfl⟩
              clear hLit
              go_wp2
              go_ret2
              rw [hv.out]
              exact ⟨rfl, HB.out⟩
            | true =>
              rw [hl] at hLit
              replace hAtm := Lib.hid (hAtm.out hl)
              go_wp2_with fail
              refine (hLit.out _).mono ?_
              rintro e W3 ⟨rfl, rfl⟩
              clear hLit
              by_cases hbg : a < (x.natAbs : Int)
              · have hv := Lib.hid (hno.out (Or.inr hbg))
                clear hyes hno hl
                go_wp2_with fail
                refine (hAtm.out _).mono ?_
                rintro e W4 ⟨rfl, rfl⟩
                clear hAtm
                go_wp2
                go_ret2
                rw [hv.out]
                exact ⟨rfl, HB.out⟩
              · have hG2 := Lib.hid (hyes.out hl (by omega))
                have hD := Lib.hid (fun (W : World) => r18_decimal x W hxb.1 hxb.2)
                have hs2 : (⟨(Lib.itoa x).toArray⟩ : ByteArray) ++ ⟨#[32]⟩ = ⟨(xtxt x).toArray⟩ := by
                  rw [show (⟨#[32]⟩ : ByteArray) = ⟨[32].toArray⟩ from rfl, str_append]
                  rfl
                have hl3 : (xtxt x).length ≤ 22 := by unfold xtxt; simp; omega
                clear hyes hno hl hxb
                go_wp2_with fail
                refine (hAtm.out _).mono ?_
                rintro e W4 ⟨rfl, rfl⟩
                clear hAtm
                go_wp2_with fail
                refine (hD.out _).mono ?_
                rintro e W5 ⟨rfl, q1⟩
                replace HB := Lib.hid (HB.out.trans (q1.mono HB.out.size))
                replace HOw := Lib.hid (HOw.out.below q1)
                clear q1 hD
                generalize xtxt x = tx at *
                obtain ⟨v', W6, hrun, hO', hS'⟩ := pushB (P := Tryd.prog) (t := 38) (u := 9) (ty := 38) (x := .string ⟨tx.toArray⟩) (m := tx) (w := W5) Tryd.underlying38 HI8.out HOw.out (Src.lit Tryd.underlying9) (by omega) HB.out.size
                obtain ⟨E', j', rfl, hj', _, _⟩ := hO'.form
                have HP := Lib.hid hrun
                have HO2 := Lib.hid hO'
                replace HB := Lib.hid (HB.out.trans hS'.below)
                have hl5 : (t2 ++ tx).length ≤ t.length + (m + 1) * 22 := by rw [List.length_append]; omega
                clear hrun hO' hS' HOw hj' hcell hcell2 HR
                generalize t2 ++ tx = t3 at *
                go_wp2_with (refine pushBL_ rfl rfl rfl rfl HP.out ?_; clear HP)
                go_roundg (c.length - (m + 1))
                case measure => omega
                case rel => exact ⟨m + 1, t3, E', j', by omega, by omega, rfl, by go_num, hl5, HO2, HB, hstep2, hG2⟩
          · have hltz2 : ¬ (m : Int) < (c.length : Int) := by omega
            have hgd := Lib.hid (hgood.out (by
              have h1 : lits c = true := List.all_eq_true.2 fun x hx => by obtain ⟨q, hq, rfl⟩ := List.getElem_of_mem hx; exact (HG.out q hq (by omega)).1
              have h2 : (c.any fun x => decide (a < (x.natAbs : Int))) = false := by
                rw [List.any_eq_false]
                intro x hx
                obtain ⟨q, hq, rfl⟩ := List.getElem_of_mem hx
                have := (HG.out q hq (by omega)).2
                simp
                omega
              rw [hok.out, h1, h2]; rfl))
            have hts : t2 ++ [48, 10] = t ++ ctxt c := by
              rw [HS2.out, List.take_of_length_le (by omega), List.append_assoc]; rfl
            obtain ⟨v', W6, hrun, hO', hS'⟩ := pushB (P := Tryd.prog) (t := 38) (u := 9) (ty := 38) (x := .string ⟨#[48, 10]⟩) (m := [48, 10]) (w := wr) Tryd.underlying38 HI8.out HOw.out (Src.lit Tryd.underlying9) (by simp; omega) HB.out.size
            have hl7 : (t2 ++ [48, 10]).length ≤ 100 + (i + 1) * 23068674 := by rw [List.length_append]; simp; omega
            rw [hts] at hO' hl7
            obtain ⟨E', j', rfl, hj', _, _⟩ := hO'.form
            have HP := Lib.hid hrun
            have HO2 := Lib.hid hO'
            replace HB := Lib.hid (HB.out.trans hS'.below)
            clear hrun hO' hS' HOw hj' hts HS2 HG HR
            generalize t ++ ctxt c = t3 at *
            go_wp2_with (refine pushBL_ rfl rfl rfl rfl HP.out ?_; clear HP)
            go_roundg (l.length - (i + 1))
            case measure => omega
            case rel => exact ⟨i + 1, t3, E', j', by omega, by omega, rfl, by go_num, hl7, HO2, HB, hstep, hgd⟩
      · have hltz : ¬ (i : Int) < (l.length : Int) := by omega
        have hv := Lib.hid (show dv = .tuple #[.string ⟨t.toArray⟩, .int .i64 0] by
          rw [HV.out, dimV_ok (by omega) (fun c hc => by obtain ⟨j, hj, rfl⟩ := List.getElem_of_mem hc; exact HO.out j hj (by omega)), HS.out, HD.out, List.take_of_length_le (by omega)]
          rfl)
        have hst := HOw.out.str (P := Tryd.prog) (src := 38) (dst := 9) Tryd.underlying38 Tryd.underlying5 Tryd.underlying9
        go_wp2
        go_ret2
        rw [hv.out]
        exact ⟨rfl, HB.out⟩
end Go.Proofs.YtafmomlgkehdfaaDoor.F
