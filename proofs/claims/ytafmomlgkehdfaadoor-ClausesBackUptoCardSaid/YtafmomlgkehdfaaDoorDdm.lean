/- clauses.Dimacs: the text of clauses, or that one may not be. Condition: the library's table of powers of ten reads as its text lays it. -/
import Derived.Test.YtafmomlgkehdfaaDoorDcl
import Derived.Test.YtafmomlgkehdfaaDoorShf
import Derived.Lib.AppendIntMem
set_option linter.unusedVariables false
set_option linter.unusedSimpArgs false
namespace Go.Proofs.YtafmomlgkehdfaaDoor.F
open Go.RowKit Go.Shelf

abbrev TabB (B : Nat) (w : World) : Prop := Lib.TabBelow Tryd.prog B w "internal/strconv.uint64pow10" .u64 Lib.pow10Tab
theorem itoa_ (n : Int) (h0 : -9223372036854775808 ≤ n) (h1 : n ≤ 9223372036854775807) (w : World) (ht : Lib.TabIs Tryd.prog w "internal/strconv.uint64pow10" .u64 Lib.pow10Tab) :
    Calls Tryd.prog 11 #[.int .i64 n] w fun e w' => e = .returned (.string ⟨(Lib.itoa n).toArray⟩) ∧ Below w.heap.size w w' :=
  (strconv_Itoa n h0 h1 w ht).mono fun e w' ⟨he, k, os, hw⟩ => ⟨he, hw ▸ Lib.below_grow w.heap.size w (Nat.le_refl _) k os⟩

/-- a clause's text -/
def xtxt (x : Int) : List UInt8 := Lib.itoa x ++ [32]
def ctxt (c : List Int) : List UInt8 := c.flatMap xtxt ++ [48, 10]
def htxt (a : Int) (n : Int) : List UInt8 := [112, 32, 99, 110, 102, 32] ++ Lib.itoa a ++ [32] ++ Lib.itoa n ++ [10]
/-- may a clause be, of so many atoms? -/
def clOk (a : Int) (c : List Int) : Bool := lits c && !(c.any fun x => decide (a < (x.natAbs : Int)))
/-- the text of clauses -/
def dtxt (a : Int) (l : List (List Int)) : List UInt8 := htxt a l.length ++ l.flatMap ctxt
def dimOk (a : Int) (l : List (List Int)) : Bool := decide (0 ≤ a) && l.all (clOk a)
def dimV (a : Int) (l : List (List Int)) : Value := if dimOk a l = true then .tuple #[.string ⟨(dtxt a l).toArray⟩, .int .i64 0] else .tuple #[.string ⟨#[]⟩, .int .i64 180]
theorem dimV_neg {a : Int} {l : List (List Int)} (h : a < 0) : dimV a l = .tuple #[.string ⟨#[]⟩, .int .i64 180] := by
  have : ¬ 0 ≤ a := by omega
  unfold dimV dimOk; simp [this]
theorem dimV_bad {a : Int} {l : List (List Int)} {c : List Int} (h : c ∈ l) (hc : clOk a c = false) : dimV a l = .tuple #[.string ⟨#[]⟩, .int .i64 180] := by
  have : l.all (clOk a) = false := by
    rw [List.all_eq_false]
    exact ⟨c, h, by rw [hc]; decide⟩
  unfold dimV dimOk; simp [this]
theorem dimV_ok {a : Int} {l : List (List Int)} (h : 0 ≤ a) (hc : ∀ c ∈ l, clOk a c = true) : dimV a l = .tuple #[.string ⟨(dtxt a l).toArray⟩, .int .i64 0] := by
  have : l.all (clOk a) = true := List.all_eq_true.2 hc
  unfold dimV dimOk; simp [this, h]
theorem flat_take {α : Type} (f : α → List UInt8) {l : List α} {i : Nat} (hi : i < l.length) : (l.take (i + 1)).flatMap f = (l.take i).flatMap f ++ f l[i] := by
  rw [List.take_succ_eq_append_getElem hi, List.flatMap_append]
  simp

set_option maxHeartbeats 4000000 in
set_option maxRecDepth 100000 in
theorem Dimacs (a : Int) (ha : inI a) (l : List (List Int)) (hx : ∀ c ∈ l, ∀ x ∈ c, inI x) (C : Option Addr) (k : Nat) (w : World) (hX : (Knd.int .i64).slice.Row w C l) (hm : l.length ≤ 1048576) (hmc : ∀ c ∈ l, c.length ≤ 1048576) (hT : TabB w.heap.size w) :
    Calls Tryd.prog 6 #[.int .i64 a, .slice C l.length k] w fun e w' => e = .returned (dimV a l) ∧ Below w.heap.size w w' := by
  have HF := Lib.hid ((Fr.refl w).box [.int .i64 a] 3)
  have HT := Lib.hid hT
  have HX := Lib.hid hX
  have HI := Lib.hid hx
  have HM := Lib.hid hmc
  clear hT hX hx hmc
  obtain ⟨ha0, ha1⟩ := ha
  obtain ⟨dv, hdv⟩ : ∃ dv, dv = dimV a l := ⟨_, rfl⟩
  rw [← hdv]
  have HV := Lib.hid hdv
  clear hdv
  have b0 := HF.out.cellN 0 rfl 0 rfl
  go_enter Tryd.func6, Tryd.ntmps6
  by_cases hneg : a < 0
  · have hv := Lib.hid (HV.out.trans (dimV_neg (l := l) hneg))
    go_wp2
    go_ret2
    rw [hv.out]
    exact ⟨rfl, HF.out.bel⟩
  · have hI1 := Lib.hid (fun (W : World) (hb : Below w.heap.size w W) => itoa_ a ha0 ha1 W (HT.out.on hb).here)
    have hI2 := Lib.hid (fun (W : World) (hb : Below w.heap.size w W) => itoa_ (l.length : Int) (by omega) (by omega) W (HT.out.on hb).here)
    have hla := Lib.itoa_length_le a ha0 ha1
    have hlb := Lib.itoa_length_le (l.length : Int) (by omega) (by omega)
    go_wp2_with fail
    refine (hI1.out _ HF.out.bel).mono ?_
    rintro e W1 ⟨rfl, q1⟩
    replace HF := Lib.hid (HF.out.below q1)
    clear q1 hI1 b0
    go_wp2_with fail
    refine (hI2.out _ HF.out.bel).mono ?_
    rintro e W2 ⟨rfl, q1⟩
    replace HF := Lib.hid (HF.out.below q1)
    clear q1 hI2
    obtain ⟨hd, hhd⟩ : ∃ hd, hd = htxt a l.length := ⟨_, rfl⟩
    have hs1 : (⟨#[112, 32, 99, 110, 102, 32]⟩ : ByteArray) ++ ⟨(Lib.itoa a).toArray⟩ ++ ⟨#[32]⟩ ++ ⟨(Lib.itoa (l.length : Int)).toArray⟩ ++ ⟨#[10]⟩ = ⟨hd.toArray⟩ := by
      rw [hhd, show (⟨#[112, 32, 99, 110, 102, 32]⟩ : ByteArray) = ⟨[112, 32, 99, 110, 102, 32].toArray⟩ from rfl, show (⟨#[32]⟩ : ByteArray) = ⟨[32].toArray⟩ from rfl, show (⟨#[10]⟩ : ByteArray) = ⟨[10].toArray⟩ from rfl, str_append, str_append, str_append, str_append]
      rfl
    have hdl : hd.length ≤ 100 := by
      rw [hhd]; unfold htxt; simp; omega
    have HD := Lib.hid hhd
    clear hhd
    go_wp2
    clear hs1 hla hlb
    obtain ⟨W0, hW0⟩ : ∃ X, X = W2 := ⟨_, rfl⟩
    subst hW0
    go_loopg [6, 24] l.length (fun gg s6 s24 wr => ∃ (i : Nat) (t : List UInt8), i ≤ l.length ∧ l.length - i ≤ gg ∧ s6 = .string ⟨t.toArray⟩ ∧ s24 = .int .i64 i ∧ t.length ≤ 100 + i * 23068674 ∧ Hid (Fr w wr [(w.heap.size, [.int .i64 a])]) ∧ Hid (t = hd ++ (l.take i).flatMap ctxt) ∧ Hid (∀ j (h : j < l.length), j < i → clOk a l[j] = true))
    case atStart => exact ⟨0, hd, Nat.zero_le _, by omega, rfl, rfl, by omega, HF, (show Hid _ from (by simp : hd = hd ++ (l.take 0).flatMap ctxt)), fun j h1 h2 => by omega⟩
    case round =>
      obtain ⟨i, t, hi, hg, rfl, rfl, htl, HF, HS, HO⟩ := hrel
      obtain ⟨U, hU⟩ : ∃ X, X = wr := ⟨_, rfl⟩
      subst hU
      by_cases hlt : i < l.length
      · have hltz : (i : Int) < (l.length : Int) := by omega
        obtain ⟨ad, B, c0, rfl, hcell, hcc, hcm, hrow⟩ := Knd.at_slice (HX.out.below HF.out.bel) i hlt
        have hmem : l[i] ∈ l := List.getElem_mem hlt
        have hcI := Lib.hid (HI.out _ hmem)
        have hcL := HM.out _ hmem
        have hbad := Lib.hid (fun (h : clOk a l[i] = false) => dimV_bad hmem h)
        have hgood := Lib.hid (show clOk a l[i] = true → ∀ j (h : j < l.length), j < i + 1 → clOk a l[j] = true from fun h0 j h h2 => by
          by_cases e : j = i
          · subst e; exact h0
          · exact HO.out j h (by omega))
        have hstep := Lib.hid (show t ++ ctxt l[i] = hd ++ (l.take (i + 1)).flatMap ctxt by rw [flat_take ctxt hlt, HS.out, List.append_assoc])
        have HR := Lib.hid hrow
        clear hrow HO HS hmem
        have hok : clOk a l[i] = (lits l[i] && !(l[i].any fun x => decide (a < (x.natAbs : Int)))) := rfl
        generalize l[i] = c at *
        have hMy := Lib.hid (fun (W : World) (hb : Below U.heap.size U W) => may B c0 c W (HR.out.below hb) hcm)
        have hTp := Lib.hid (fun (hl : lits c = true) (W : World) (hb : Below U.heap.size U W) (hB : W.cell? ⟨w.heap.size, 0, none⟩ = some (.int .i64 a)) => containsTop a c hl hcI.out B c0 ⟨w.heap.size, 0, none⟩ W hB (HR.out.below hb) hcm)
        have HW := Lib.hid (Below.refl U.heap.size U)
        cases hl : lits c with
        | false =>
          have hv := Lib.hid (HV.out.trans (hbad.out (by rw [hok, hl]; rfl)))
          rw [hl] at hMy
          clear hok hTp hgood hstep
          go_wp2_with fail
          refine (hMy.out _ HW.out).mono ?_
          rintro e W3 ⟨rfl, q1⟩
          replace HF := Lib.hid (HF.out.below q1)
          clear q1 hMy
          go_wp2
          go_ret2
          rw [hv.out]
          exact ⟨rfl, HF.out.bel⟩
        | true =>
          rw [hl] at hMy
          replace hTp := Lib.hid (hTp.out hl)
          go_wp2_with fail
          refine (hMy.out _ HW.out).mono ?_
          rintro e W3 ⟨rfl, q1⟩
          replace HF := Lib.hid (HF.out.below q1)
          replace HW := Lib.hid (HW.out.trans (q1.mono HW.out.size))
          clear q1 hMy
          have b0 := HF.out.cellN 0 rfl 0 rfl
          replace hTp := Lib.hid (hTp.out _ HW.out b0)
          cases ht : (c.any fun x => decide (a < (x.natAbs : Int))) with
          | true =>
            have hv := Lib.hid (HV.out.trans (hbad.out (by rw [hok, hl, ht]; rfl)))
            rw [ht] at hTp
            clear hok hgood hstep ht hl b0
            go_wp2_with fail
            refine hTp.out.mono ?_
            rintro e W4 ⟨rfl, q1⟩
            replace HF := Lib.hid (HF.out.below q1)
            clear q1 hTp
            go_wp2
            go_ret2
            rw [hv.out]
            exact ⟨rfl, HF.out.bel⟩
          | false =>
            replace hgood := Lib.hid (hgood.out (by rw [hok, hl, ht]; rfl))
            rw [ht] at hTp
            clear hok hbad ht hl b0
            go_wp2_with fail
            refine hTp.out.mono ?_
            rintro e W4 ⟨rfl, q1⟩
            replace HF := Lib.hid (HF.out.below q1)
            replace HW := Lib.hid (HW.out.trans (q1.mono HW.out.size))
            clear q1 hTp
            go_wp2
            obtain ⟨W5, hW5⟩ : ∃ X, X = W4 := ⟨_, rfl⟩
            subst hW5
            go_loopg [6, 38] c.length (fun gg s6 s38 w2 => ∃ (j : Nat) (t2 : List UInt8), j ≤ c.length ∧ c.length - j ≤ gg ∧ s6 = .string ⟨t2.toArray⟩ ∧ s38 = .int .i64 j ∧ t2.length ≤ t.length + j * 22 ∧ Hid (Fr w w2 [(w.heap.size, [.int .i64 a])]) ∧ Hid (Below U.heap.size U w2) ∧ Hid (t2 = t ++ (c.take j).flatMap xtxt))
            case atStart => exact ⟨0, t, Nat.zero_le _, by omega, rfl, rfl, by omega, HF, HW, (show Hid _ from (by simp : t = t ++ (c.take 0).flatMap xtxt))⟩
            case round =>
              obtain ⟨j, t2, hj, hg2, rfl, rfl, ht2, HF, HW, HS2⟩ := hrel
              by_cases hlt2 : j < c.length
              · have hltz2 : (j : Int) < (c.length : Int) := by omega
                obtain ⟨ad2, rfl, hcell2⟩ := Knd.at_int (HR.out.below HW.out) j hlt2
                have hxb := hcI.out c[j] (List.getElem_mem hlt2)
                have hlx := Lib.itoa_length_le c[j] hxb.1 hxb.2
                have hstep2 := Lib.hid (show t2 ++ xtxt c[j] = t ++ (c.take (j + 1)).flatMap xtxt by rw [flat_take xtxt hlt2, HS2.out, List.append_assoc])
                generalize c[j] = x at *
                have hIx := Lib.hid (itoa_ x hxb.1 hxb.2 wr (HT.out.on HF.out.bel).here)
                have hs2 : (⟨(Lib.itoa x).toArray⟩ : ByteArray) ++ ⟨#[32]⟩ = ⟨(xtxt x).toArray⟩ := by
                  rw [show (⟨#[32]⟩ : ByteArray) = ⟨[32].toArray⟩ from rfl, str_append]
                  rfl
                have hs3 : (⟨t2.toArray⟩ : ByteArray) ++ ⟨(xtxt x).toArray⟩ = ⟨(t2 ++ xtxt x).toArray⟩ := str_append _ _
                have hl3 : (xtxt x).length ≤ 22 := by unfold xtxt; simp; omega
                have hl4 : (t2 ++ xtxt x).length = t2.length + (xtxt x).length := List.length_append
                have hl5 : (t2 ++ xtxt x).length ≤ t.length + (j + 1) * 22 := by omega
                clear hl4
                generalize t2 ++ xtxt x = t3 at *
                generalize xtxt x = tx at *
                clear HS2 hxb
                go_wp2_with fail
                refine hIx.out.mono ?_
                rintro e W6 ⟨rfl, q1⟩
                replace HF := Lib.hid (HF.out.below q1)
                replace HW := Lib.hid (HW.out.trans (q1.mono HW.out.size))
                clear q1 hIx hcell2
                go_wp2
                go_roundg (c.length - (j + 1))
                case measure => omega
                case rel => exact ⟨j + 1, t3, by omega, by omega, rfl, by go_num, hl5, HF, HW, hstep2⟩
              · have hltz2 : ¬ (j : Int) < (c.length : Int) := by omega
                have hs4 : (⟨t2.toArray⟩ : ByteArray) ++ ⟨#[48, 10]⟩ = ⟨(t ++ ctxt c).toArray⟩ := by
                  rw [show (⟨#[48, 10]⟩ : ByteArray) = ⟨[48, 10].toArray⟩ from rfl, str_append, HS2.out, List.take_of_length_le (by omega), List.append_assoc]
                  rfl
                have hl6 : t2.length ≤ t.length + 23068672 := by omega
                have hl7 : (t ++ ctxt c).length ≤ 100 + (i + 1) * 23068674 := by
                  have e := congrArg (fun b : ByteArray => b.data.size) hs4
                  simp at e
                  simp
                  omega
                generalize t ++ ctxt c = t3 at *
                clear HS2
                go_wp2
                go_roundg (l.length - (i + 1))
                case measure => omega
                case rel => exact ⟨i + 1, t3, by omega, by omega, rfl, by go_num, hl7, HF, hstep, hgood⟩
      · have hltz : ¬ (i : Int) < (l.length : Int) := by omega
        have hv := Lib.hid (show dv = .tuple #[.string ⟨t.toArray⟩, .int .i64 0] by
          rw [HV.out, dimV_ok (by omega) (fun c hc => by obtain ⟨j, hj, rfl⟩ := List.getElem_of_mem hc; exact HO.out j hj (by omega)), HS.out, HD.out, List.take_of_length_le (by omega)]
          rfl)
        go_wp2
        go_ret2
        rw [hv.out]
        exact ⟨rfl, HF.out.bel⟩
end Go.Proofs.YtafmomlgkehdfaaDoor.F
