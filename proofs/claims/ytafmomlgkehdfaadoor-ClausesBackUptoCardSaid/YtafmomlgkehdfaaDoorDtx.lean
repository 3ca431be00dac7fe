/- Texts of numbers: the reference's Text on layers 1 and 2, in base 10. -/
import Derived.Test.YtafmomlgkehdfaaDoorByt
import Derived.Lib.BitFns
import Derived.Lib.Walk
import Derived.Lib.ItoaLen
set_option linter.unusedVariables false
set_option linter.unusedSimpArgs false
namespace Go.Proofs.YtafmomlgkehdfaaDoor.F
open Go.RowKit Go.Shelf

theorem or_shift {r x : Int} (h0 : 0 ≤ r) (h1 : r < 16) (x0 : 0 ≤ x) (x1 : x < 4294967296) : bits BinOp.or IntKind.u64 (r * 4294967296) x = r * 4294967296 + x := by
  rw [u64_or _ _ (by omega) (by omega) (by omega) (by omega), nat_join 32 _ _ (by omega) (by omega)]
  omega
set_option maxHeartbeats 1000000 in
theorem r1_tenth (A : Option Addr) (c : Nat) (xs : List Int) (b : Int) (w : World) (h : In w A c xs) (hm : xs.length ≤ 1099511627776) (hb : 2 ≤ b ∧ b ≤ 16) :
    Calls Tryd.prog 56 #[.slice A xs.length c, .int .i64 b] w fun e w' => ∃ A' c', e = .returned (.tuple #[.slice A' (dg (V xs / b).toNat).length c', .int .i64 (V xs % b)]) ∧ In w' A' c' (dg (V xs / b).toNat) ∧ Below w.heap.size w w' := by
  have hmk := fun W => run_makeL (P := Tryd.prog) 54 85 Tryd.underlying54 info96 (xs.length : Int) xs.length (by omega) (by omega) W
  have HX := Lib.hid h
  have hcap := h.cap
  clear h
  obtain ⟨hb0, hb1⟩ := hb
  have hbw : IntKind.u64.wrap b = b := u64w (by omega) (by omega)
  obtain ⟨qq, hqq⟩ : ∃ qq, qq = V xs / b := ⟨_, rfl⟩
  obtain ⟨rr, hrr⟩ : ∃ rr, rr = V xs % b := ⟨_, rfl⟩
  rw [← hqq, ← hrr]
  have HQQ := Lib.hid hqq
  have HRR := Lib.hid hrr
  clear hqq hrr
  go_enter Tryd.func56, Tryd.ntmps56
  go_wp2
  clear hmk
  go_loopg [7, 8] xs.length (fun gg s7 s8 wr => ∃ (k : Nat) (r : Int) (cs : List Int), k ≤ xs.length ∧ k ≤ gg ∧ s7 = .int .u64 r ∧ s8 = .int .i64 ((k : Int) - 1) ∧ 0 ≤ r ∧ r < b ∧ cs.length = xs.length ∧ Hid (OwnN wr w.heap.size cs) ∧ Hid (Below w.heap.size w wr) ∧ Hid (Lim cs) ∧ Hid (V (xs.drop k) = b * V (cs.drop k) + r))
  case atStart =>
    refine ⟨xs.length, 0, List.replicate xs.length 0, Nat.le_refl _, Nat.le_refl _, rfl, by go_num, by omega, by omega, by simp, own_zeros _ _ _, (Below.refl _ w).alloc (Nat.le_refl _) _, Lim.zeros _, ?_⟩
    show _ = _
    rw [List.drop_length, List.drop_of_length_le (by simp)]
    simp [V]
  case round =>
    obtain ⟨k, r, cs, hk, hg, rfl, rfl, hr0, hr1, hl, HO, HB, HL, HV⟩ := hrel
    by_cases h0 : 0 < k
    · obtain ⟨j, rfl⟩ : ∃ j, k = j + 1 := ⟨k - 1, by omega⟩
      have hj : j < xs.length := by omega
      obtain ⟨ad, rfl, hcell⟩ := Knd.at_int HX.out.row j hj
      have hce := cell_below HB.out hcell
      have hx := HX.out.lim.get j hj
      have c3 := OwnN.cell HO.out j (by omega)
      have c4 := Own.frozen HO.out j
      rw [show ((j + 1 : Nat) : Int) - 1 = j by omega]
      have hV' := Lib.hid (V_drop hj)
      clear hcell
      generalize hxx : xs[j] = x at hce hx hV'
      obtain ⟨m, hm⟩ : ∃ m, m = r * 4294967296 + x := ⟨_, rfl⟩
      have m0 : 0 ≤ m := by omega
      have m1 : m < b * 4294967296 := by
        have : (r + 1) * 4294967296 ≤ b * 4294967296 := by omega
        omega
      have hor : bits BinOp.or IntKind.u64 (r * 4294967296) x = m := by rw [hm]; exact or_shift hr0 (by omega) hx.1 hx.2
      have hq0 : 0 ≤ m / b := Int.ediv_nonneg m0 (by omega)
      have hq1 : m / b < 4294967296 := Int.ediv_lt_of_lt_mul (by omega) (by rw [Int.mul_comm]; exact m1)
      have hqe := Int.mul_ediv_add_emod m b
      have hs0 : 0 ≤ m % b := Int.emod_nonneg _ (by omega)
      have hs1 : m % b < b := Int.emod_lt_of_pos _ (by omega)
      have hd1 : m.tdiv b = m / b := Int.tdiv_eq_ediv_of_nonneg m0
      have hd2 : m.tmod b = m % b := Int.tmod_eq_emod_of_nonneg m0
      generalize m / b = q at *
      generalize m % b = s at *
      have hw1 : IntKind.u64.wrap q = q := u64w (by omega) (by omega)
      have hw2 : q % 4294967296 = q := Int.emod_eq_of_lt hq0 hq1
      have hbz : ¬ b = 0 := by omega
      have HS := Lib.hid (show V (xs.drop j) = b * V ((cs.set j q).drop j) + s from by
        rw [hV'.out, HV.out, V_drop (by simp; omega : j < (cs.set j q).length), List.getElem_set_self, List.drop_set_of_lt (by omega)]
        rw [Int.mul_add b q, Int.mul_left_comm b 4294967296]
        omega)
      have HL' := Lib.hid (HL.out.set j hq0 hq1)
      clear HV HL hV' hxx hqe hm
      go_wp2
      go_roundg j
      case measure => omega
      case rel => exact ⟨j, s, cs.set j q, by omega, by omega, rfl, by go_num, hs0, hs1, by simpa using hl, HO.out.set _ _, HB.out.setCell (Nat.le_refl _) _, HL', HS⟩
    · obtain rfl : k = 0 := by omega
      have HV' := Lib.hid (show V xs = b * V cs + r from HV.out)
      clear HV
      have hv0 := V_nonneg HL.out
      have hvq : V cs = qq := by
        symm
        rw [HQQ.out, HV'.out, Int.add_comm, Int.add_mul_ediv_left _ _ (by omega), Int.ediv_eq_zero_of_lt hr0 hr1, Int.zero_add]
      obtain rfl : rr = r := by rw [HRR.out, HV'.out, Int.add_comm, Int.add_mul_emod_self_left, Int.emod_eq_of_lt hr0 hr1]
      have hN := Lib.hid (r1_NormN (some ⟨w.heap.size, 0, none⟩) xs.length cs wr ⟨HO.out.row, HL.out, by omega⟩ (by omega))
      rw [hl, hvq] at hN
      clear HQQ HRR HV' HL HX hv0 hvq
      have hrw : IntKind.i64.wrap rr = rr := i64w (by omega) (by omega)
      go_wp2_with fail
      refine hN.out.mono ?_
      rintro e w2 ⟨A2, c2, rfl, q1, q2⟩
      have HB2 := Lib.hid (HB.out.trans (q2.mono HB.out.size))
      have Q1 := Lib.hid q1
      clear q1 q2 hN
      go_wp2
      go_ret2
      exact ⟨A2, c2, rfl, Q1.out, HB2.out⟩

/-- the digits of a number; none for 0 -/
def digs (n : Nat) : List UInt8 := if n = 0 then [] else Lib.decDigits n
theorem digs_zero : digs 0 = [] := rfl
theorem digs_step {n : Nat} (h : n ≠ 0) : digs n = digs (n / 10) ++ [UInt8.ofNat (48 + n % 10)] := by
  unfold digs
  rw [if_neg h, Lib.decDigits]
  by_cases h1 : n < 10
  · rw [dif_pos h1, if_pos (by omega), List.nil_append, Nat.mod_eq_of_lt h1]
  · rw [dif_neg h1, if_neg (by omega)]
theorem digs_ne {n : Nat} (h : n ≠ 0) : digs n = Lib.decDigits n := by unfold digs; rw [if_neg h]
theorem digs_nil {n : Nat} : digs n = [] ↔ n = 0 := by
  constructor
  · intro h
    by_cases h0 : n = 0
    · exact h0
    · rw [digs_step h0] at h
      simp at h
  · intro h; rw [h]; rfl
/-- a digit of the constant -/
def hexes : ByteArray := { data := #[48, 49, 50, 51, 52, 53, 54, 55, 56, 57, 97, 98, 99, 100, 101, 102] }
theorem hexes_fin : ∀ i : Fin 10, hexes.data.toList.getD i.val 0 = UInt8.ofNat (48 + i.val) := by decide +kernel
theorem idx_hexes {P : Program} (t : TypeId) (ht : P.underlying t = some .string) (z : Int) (h0 : 0 ≤ z) (h1 : z < 10) (w : World) :
    (Instr.index t (.string hexes) (.int .i64 z)).run P w = .ok (.int .u8 ((UInt8.ofNat (48 + z.toNat)).toNat : Int)) w := by
  obtain ⟨i, rfl⟩ := Int.eq_ofNat_of_zero_le h0
  have hi : i < 10 := by omega
  have hs : hexes.size = 16 := by decide +kernel
  rw [run_index_string w t hexes .i64 _ ht, dif_pos ⟨by omega, by rw [hs]; omega⟩]
  have e : ((i : Int)).toNat = i := by omega
  simp only [e]
  rw [Lib.getD_at hexes i (by rw [hs]; omega)]
  have := hexes_fin ⟨i, hi⟩
  simp only at this
  rw [this]

theorem r1_tenthN (A : Option Addr) (c n : Nat) (w : World) (h : In w A c (dg n)) (hm : (dg n).length ≤ 1099511627776) :
    Calls Tryd.prog 56 #[.slice A (dg n).length c, .int .i64 10] w fun e w' => ∃ A' c', e = .returned (.tuple #[.slice A' (dg (n / 10)).length c', .int .i64 ((n % 10 : Nat) : Int)]) ∧ In w' A' c' (dg (n / 10)) ∧ Below w.heap.size w w' := by
  have e := r1_tenth A c (dg n) 10 w h hm ⟨by omega, by omega⟩
  rw [V_dg, show ((n : Int) / 10).toNat = n / 10 by omega, show (n : Int) % 10 = ((n % 10 : Nat) : Int) by omega] at e
  exact e
set_option maxHeartbeats 2000000 in
set_option maxRecDepth 100000 in
theorem r1_Text (A : Option Addr) (c : Nat) (xs : List Int) (w : World) (h : In w A c xs) (hm : xs.length ≤ 1099511627776) (n : Nat) (hn : n = (V xs).toNat) (hlen : (Lib.decDigits n).length ≤ 1099511627776) :
    Calls Tryd.prog 38 #[.slice A xs.length c, .int .i64 10] w fun e w' => e = .returned (.tuple #[.string ⟨(Lib.decDigits n).toArray⟩, .int .i64 0]) ∧ Below w.heap.size w w' := by
  have hN := Lib.hid (r1_NormN A c xs w h (by omega))
  rw [← hn] at hN
  have hlx : (dg n).length ≤ xs.length := by rw [hn]; exact dg_len_of_V h.lim
  clear h hn
  have hix := fun (z : Int) (h0 : 0 ≤ z) (h1 : z < 10) (W : World) => idx_hexes (P := Tryd.prog) 9 Tryd.underlying9 z h0 h1 W
  unfold hexes at hix
  replace hix := Lib.hid hix
  go_enter Tryd.func38, Tryd.ntmps38
  go_wp2_with fail
  refine hN.out.mono ?_
  rintro e w1 ⟨A1, c1, rfl, q1, q2⟩
  have HB1 := Lib.hid q2
  have Q1 := Lib.hid q1
  clear q1 q2 hN
  have hi8 : (Tryd.prog.info? 5).map (fun i => (i.zero, i.size, i.bytes)) = some (some (.int .u8 0), 1, 1) := by kernel_rfl
  have HI8 := Lib.hid hi8
  clear hi8
  go_wp2
  go_loopg [0, 6] n (fun gg s0 s6 wr => ∃ (m : Nat) (A' : Option Addr) (c' : Nat) (E : Option Addr) (j : Nat) (l : List UInt8), m ≤ gg ∧ s0 = .slice A' (dg m).length c' ∧ s6 = .slice E l.length j ∧ (dg m).length ≤ xs.length ∧ Hid (In wr A' c' (dg m)) ∧ Hid (OwnB wr w.heap.size 5 (.slice E l.length j) l) ∧ Hid (Below w.heap.size w wr) ∧ Hid (digs m ++ l.reverse = digs n))
  case atStart =>
    refine ⟨n, A1, c1, some ⟨w1.heap.size, 0, none⟩, 0, [], Nat.le_refl _, rfl, rfl, hlx, Q1.out.below ((Below.refl _ _).alloc (Nat.le_refl _) _), ?_, HB1.out.alloc HB1.out.size _, ?_⟩
    · exact .inr ⟨w1.heap.size, 0, #[], (0, 0), rfl, HB1.out.size, heap_alloc_new w1 _, fun k hk => by simp at hk, Nat.le_refl _, by simp [maxLen], rfl, rfl, fun y hy => by simp at hy⟩
    · show _ = _
      simp
  case round =>
    obtain ⟨m, A', c', E, j, l, hmg, rfl, rfl, hml, HI, HO, HB, HD⟩ := hrel
    by_cases h0 : m = 0
    · subst h0
      have hlr := Lib.hid (show l.reverse = digs n by have := HD.out; rwa [digs_zero, List.nil_append] at this)
      have hz : (dg 0).length = 0 := by rw [dg_zero]; rfl
      rw [hz]
      clear HI HD hz hmg
      by_cases hn0 : n = 0
      · have hl0 : l = [] := by
          have := hlr.out
          rw [hn0, digs_zero] at this
          simpa using this
        subst hl0
        have e1 : Lib.decDigits n = [48] := by rw [hn0, Lib.decDigits, dif_pos (by omega)]; rfl
        simp only [List.length_nil]
        go_wp2
        go_ret2
        rw [e1]
        exact ⟨rfl, HB.out⟩
      · have hdl : l.reverse = Lib.decDigits n := by rw [hlr.out, digs_ne hn0]
        have hne : l ≠ [] := fun e => by
          rw [e] at hlr
          exact hn0 (digs_nil.1 hlr.out.symm)
        have hl1 : 0 < l.length := List.length_pos_iff.2 hne
        have hll : l.length ≤ 1099511627776 := by rw [← hdl, List.length_reverse] at hlen; exact hlen
        have hl2 : ¬ ((l.length : Nat) : Int) = 0 := by omega
        have hl3 : ¬ l.length = 0 := by omega
        have HDL := Lib.hid hdl
        have hmk := fun W => run_makeB (P := Tryd.prog) 38 5 Tryd.underlying38 HI8.out (l.length : Int) l.length rfl (by omega) W
        clear hlr hne hdl hn0
        go_wp2
        clear hmk
        obtain ⟨w0, rfl⟩ : ∃ w0, w0 = wr := ⟨wr, rfl⟩
        obtain ⟨A9, c9, hv9, hj9, hc9, _⟩ := HO.out.form
        simp only [Value.slice.injEq] at hv9
        obtain ⟨rfl, -, rfl⟩ := hv9
        have HC := Lib.hid hc9
        clear hc9 HO
        go_loopg [9] l.length (fun gg s9 w2 => ∃ (i : Nat) (os : List UInt8), i ≤ l.length ∧ l.length - i ≤ gg ∧ s9 = .int .i64 i ∧ os.length = l.length ∧ Hid (Own w2 w0.heap.size (bc os)) ∧ Hid (Below w0.heap.size w0 w2) ∧ Hid (∀ k (h1 : k < os.length) (h2 : k < l.length), k < i → os[l.length - 1 - k]? = some l[k]))
        case atStart => exact ⟨0, List.replicate l.length 0, Nat.zero_le _, by omega, rfl, by simp, own_zerosB _ _ _, (Below.refl _ _).alloc (Nat.le_refl _) _, fun k h1 h2 h3 => by omega⟩
        case round =>
          obtain ⟨i, os, hi, hg2, rfl, hos, HO2, HB2, HE⟩ := hrel
          by_cases hlt : i < l.length
          · have hltz : (i : Int) < (l.length : Int) := by omega
            obtain ⟨ad, rfl, hcell⟩ := HC.out i hlt
            have hce := cell_below HB2.out hcell
            have hpos : l.length - 1 - i < os.length := by omega
            have c3 := ownB_cell HO2.out (l.length - 1 - i) hpos
            have c4 := Own.frozen HO2.out (l.length - 1 - i)
            have hz1 : ((l.length : Int) - 1 - (i : Int)) = ((l.length - 1 - i : Nat) : Int) := by omega
            have HS := Lib.hid (show ∀ k (h1 : k < (os.set (l.length - 1 - i) l[i]).length) (h2 : k < l.length), k < i + 1 → (os.set (l.length - 1 - i) l[i])[l.length - 1 - k]? = some l[k] from fun k h1 h2 h3 => by
              by_cases e : k = i
              · subst e; rw [List.getElem?_set_self hpos]
              · rw [List.getElem?_set_ne (by omega)]; exact HE.out k (by simpa using h1) h2 (by omega))
            have HO3 := Lib.hid (ownB_set HO2.out (l.length - 1 - i) l[i])
            have ho3 : (os.set (l.length - 1 - i) l[i]).length = l.length := by simpa using hos
            have hpz : ((l.length - 1 - i : Nat) : Int) < (l.length : Int) := by omega
            have hpq : (l.length - 1 - i : Nat) < l.length := by omega
            clear HE HO2 hcell
            generalize os.set (l.length - 1 - i) l[i] = os' at *
            generalize l[i].toNat = x at *
            generalize os[l.length - 1 - i].toNat = z at *
            generalize l.length - 1 - i = p at *
            go_wp2
            go_roundg (l.length - (i + 1))
            case measure => omega
            case rel => exact ⟨i + 1, os', by omega, by omega, by go_num, ho3, HO3, HB2.out.setCell (Nat.le_refl _) _, HS⟩
          · have hltz : ¬ (i : Int) < (l.length : Int) := by omega
            have heq : os = l.reverse := List.ext_getElem (by simpa using hos) fun k h1 h2 => by
              have := HE.out (l.length - 1 - k) (by omega) (by omega) (by omega)
              rw [show l.length - 1 - (l.length - 1 - k) = k by omega, List.getElem?_eq_getElem h1] at this
              rw [Option.some.inj this, List.getElem_reverse]
            have hst := ownB_str (P := Tryd.prog) (src := 38) (dst := 9) (e := 5) (c := l.length) HO2.out Tryd.underlying38 Tryd.underlying5 Tryd.underlying9
            rw [hos, heq, HDL.out] at hst
            have HB3 := Lib.hid (HB.out.trans (HB2.out.mono HB.out.size))
            clear HE heq HO2
            go_wp2
            go_ret2
            exact ⟨rfl, HB3.out⟩
    · have hm0 : 0 < (dg m).length := List.length_pos_iff.2 fun e => h0 (dg_eq_nil.1 e)
      have hmz : (0 : Int) < ((dg m).length : Int) := by omega
      have hT := Lib.hid (r1_tenthN A' c' m wr HI.out (by omega))
      have hD2 := digs_step h0
      have hlen2 : (dg (m / 10)).length ≤ xs.length := Nat.le_trans (dg_length_mono (Nat.div_le_self ..)) hml
      have hlim : l.length ≤ 1099511627776 := by
        have e := congrArg List.length HD.out
        rw [List.length_append, List.length_reverse] at e
        have : (digs n).length ≤ (Lib.decDigits n).length := by unfold digs; split <;> simp
        omega
      have HL2 := Lib.hid (show digs (m / 10) ++ (l ++ [UInt8.ofNat (48 + m % 10)]).reverse = digs n by
        rw [← HD.out, hD2, List.reverse_append]; simp)
      have hix1 := hix.out ((m % 10 : Nat) : Int) (by omega) (by omega)
      rw [show ((m % 10 : Nat) : Int).toNat = m % 10 by omega] at hix1
      have hmd : m / 10 < m := Nat.div_lt_self (by omega) (by omega)
      replace hix1 := Lib.hid hix1
      clear hD2 HD HI h0
      generalize UInt8.ofNat (48 + m % 10) = b at *
      generalize ((m % 10 : Nat) : Int) = d at *
      generalize m / 10 = q at *
      go_wp2_with fail
      refine hT.out.mono ?_
      rintro e w2 ⟨A2, c2, rfl, q1, q2⟩
      have HI2 := Lib.hid q1
      replace HB := Lib.hid (HB.out.trans (q2.mono HB.out.size))
      replace HO := Lib.hid (HO.out.below q2)
      clear q1 q2 hT
      have hal := Lib.hid ((Below.refl _ w2).alloc (Nat.le_refl _) (.cells #[.int .u8 b.toNat] 5))
      obtain ⟨v', w3, hrun, hO', hS'⟩ := pushB (P := Tryd.prog) (t := 38) (u := 38) (ty := 38) (x := .slice (some ⟨w2.heap.size, 0, none⟩) 1 1) (m := [b]) (w := w2.alloc (.cells #[.int .u8 b.toNat] 5)) Tryd.underlying38 HI8.out (HO.out.below hal.out)
        (Src.row rfl Tryd.underlying38 (fun j u hj => by
          cases j with
          | zero =>
            simp [bc] at hj
            subst hj
            simp [go_sem]
          | succ j => simp [bc] at hj)) (by simp; omega) (Nat.le_trans HB.out.size (by simp))
      obtain ⟨E', j', rfl, hj', _, _⟩ := hO'.form
      have HP := Lib.hid hrun
      have HO2 := Lib.hid hO'
      have HI3 := Lib.hid ((HI2.out.below hal.out).keep hS'.keep)
      have HB3 := Lib.hid ((HB.out.alloc HB.out.size _).trans hS'.below)
      clear hrun hO' hS' hal HI2 HB HO hj'
      generalize l ++ [b] = l' at *
      have hix2 := hix1.out
      go_wp2_with (refine pushBL_ rfl rfl rfl rfl HP.out ?_; clear HP hix2)
      go_roundg q
      case measure => omega
      case rel => exact ⟨q, A2, c2, E', j', l', Nat.le_refl _, rfl, rfl, hlen2, HI3, HO2, HB3, HL2⟩

theorem str_append (l m : List UInt8) : (⟨l.toArray⟩ : ByteArray) ++ ⟨m.toArray⟩ = ⟨(l ++ m).toArray⟩ := by
  apply ByteArray.ext
  simp

set_option maxHeartbeats 1000000 in
set_option maxRecDepth 100000 in
theorem r2_Text (n : Int) (A : Option Addr) (c : Nat) (w : World) (h : In w A c (dg n.natAbs)) (hm : (dg n.natAbs).length ≤ 1099511627776) (hlen : (Lib.decDigits n.natAbs).length ≤ 1099511627776) :
    Calls Tryd.prog 30 #[.agg #[.bool (decide (n < 0)), .slice A (dg n.natAbs).length c]] w fun e w' => e = .returned (.string ⟨(Lib.itoa n).toArray⟩) ∧ Below w.heap.size w w' := by
  have HF := Lib.hid ((Fr.refl w).box [.bool (decide (n < 0)), .slice A (dg n.natAbs).length c] 56)
  have hN := Lib.hid (fun (W : World) (hb : Below w.heap.size w W) => r1_NormN A c (dg n.natAbs) W (h.below hb) (by omega))
  have hv : (V (dg n.natAbs)).toNat = n.natAbs := by rw [V_dg]; omega
  rw [hv] at hN
  have hT := Lib.hid (fun (W : World) (A' : Option Addr) (c' : Nat) (k : In W A' c' (dg n.natAbs)) => r1_Text A' c' (dg n.natAbs) W k hm n.natAbs hv.symm hlen)
  have hS := Lib.hid (fun (W : World) (hb : Below w.heap.size w W) => r2_Sign (decide (n < 0)) A c (dg n.natAbs) W (h.below hb) (by omega))
  rw [iv_can] at hS
  clear h hv
  have hit : Hid (Lib.itoa n = if n < 0 then 45 :: Lib.decDigits n.natAbs else Lib.decDigits n.natAbs) := by
    show _ = _
    unfold Lib.itoa
    split
    · rfl
    · rw [show n.toNat = n.natAbs by omega]
  obtain ⟨it, hit2⟩ : ∃ it, it = Lib.itoa n := ⟨_, rfl⟩
  rw [← hit2] at hit ⊢
  clear hit2
  have b0 := HF.out.cellN 0 rfl 0 rfl
  have b1 := HF.out.cellN 0 rfl 1 rfl
  have hmf := Lib.hid (Below.refl w.heap.size w)
  go_enter Tryd.func30, Tryd.ntmps30
  go_wp2_with fail
  refine (hN.out _ HF.out.bel).mono ?_
  rintro e W1 ⟨A1, c1, rfl, q1, q2⟩
  replace HF := Lib.hid (HF.out.below q2)
  have Q1 := Lib.hid q1
  clear q1 q2 hN b0 b1
  go_wp2_with fail
  refine (hT.out _ A1 c1 Q1.out).mono ?_
  rintro e W2 ⟨rfl, q2⟩
  replace HF := Lib.hid (HF.out.below q2)
  clear q2 hT Q1
  have b0 := HF.out.cellN 0 rfl 0 rfl
  have b1 := HF.out.cellN 0 rfl 1 rfl
  go_wp2_with fail
  refine (hS.out _ HF.out.bel).mono ?_
  rintro e W3 ⟨rfl, q2⟩
  replace HF := Lib.hid (HF.out.below q2)
  clear q2 hS b0 b1
  by_cases hn : n < 0
  · have hs : sgn n = -1 := by unfold sgn; rw [if_pos hn]
    rw [hs]
    have hit' : it = 45 :: Lib.decDigits n.natAbs := by rw [hit.out, if_pos hn]
    have e1 : (⟨#[45]⟩ : ByteArray) ++ ⟨(Lib.decDigits n.natAbs).toArray⟩ = ⟨it.toArray⟩ := by
      rw [hit', show (⟨#[45]⟩ : ByteArray) = ⟨[45].toArray⟩ from rfl, str_append]
      rfl
    clear hs hit hit'
    go_wp2
    go_ret
    exact ⟨rfl, HF.out.bel⟩
  · have hs : sgn n = 0 ∨ sgn n = 1 := by unfold sgn; rw [if_neg hn]; split <;> simp
    have hit' : it = Lib.decDigits n.natAbs := by rw [hit.out, if_neg hn]
    have HI := Lib.hid hit'
    have hs' : ¬ sgn n < 0 := by omega
    generalize sgn n = sn at *
    clear hs hit hit'
    go_wp2
    go_ret
    rw [HI.out]
    exact ⟨rfl, HF.out.bel⟩

theorem decDigits_lim {n : Nat} (h : n < 18446744073709551616) : (Lib.decDigits n).length ≤ 20 := by
  rw [Lib.decDigits_length]
  exact Lib.nDigits_le20 n h

set_option maxHeartbeats 1000000 in
theorem r18_decimal (n : Int) (w : World) (h0 : -9223372036854775808 ≤ n) (h1 : n ≤ 9223372036854775807) :
    Calls Tryd.prog 16 #[.int .i64 n] w fun e w' => e = .returned (.string ⟨(Lib.itoa n).toArray⟩) ∧ Below w.heap.size w w' := by
  have hO := Lib.hid (r2_Of n w h0 h1)
  have hlen : (dg n.natAbs).length ≤ 1099511627776 := by
    have h2 : (dg n.natAbs).length ≤ 2 := dg_length_le (by show _ < (4294967296 : Int) ^ 2; omega)
    omega
  have hl2 : (Lib.decDigits n.natAbs).length ≤ 1099511627776 := Nat.le_trans (decDigits_lim (by omega)) (by omega)
  have hT := Lib.hid (fun (W : World) (A' : Option Addr) (c' : Nat) (k : In W A' c' (dg n.natAbs)) => r2_Text n A' c' W k hlen hl2)
  clear hlen hl2
  go_enter Tryd.func16, Tryd.ntmps16
  go_wp2_with fail
  refine hO.out.mono ?_
  rintro e W1 ⟨A1, c1, rfl, q1, q2, q3⟩
  have Q1 := Lib.hid (In.dg q2 q1)
  have HB := Lib.hid q3
  clear q1 q2 q3 hO
  go_wp2_with fail
  refine (hT.out _ A1 c1 Q1.out).mono ?_
  rintro e W2 ⟨rfl, q2⟩
  replace HB := Lib.hid (HB.out.trans (q2.mono HB.out.size))
  clear q2 hT Q1
  go_wp2
  go_ret
  exact ⟨rfl, HB.out⟩
end Go.Proofs.YtafmomlgkehdfaaDoor.F
