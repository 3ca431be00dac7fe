/- Texts of numbers: the reference's Text on layers 1 and 2, in base 10. -/
import Derived.Test.YtidgpkccjcddgaaGreatDoorGj
import Derived.Lib.BitFns
import Derived.Lib.Walk
import Derived.Lib.ItoaLen
import Derived.Test.YtidgpkccjcddgaaGreatDoorGm
import Derived.Test.YtidgpkccjcddgaaGreatDoorGl
set_option linter.unusedVariables false
set_option linter.unusedSimpArgs false
namespace Go.Proofs.YtidgpkccjcddgaaGreatDoor.F
open Go.RowKit Go.Shelf
def digs (n : Nat) : List UInt8 := if n = 0 then [] else Lib.decDigits n
theorem digs_zero : digs 0 = [] := rfl
theorem digs_step {n : Nat} (h : n ≠ 0) : digs n = digs (n / 10) ++ [UInt8.ofNat (48 + n % 10)] := by
 unfold digs
 rw [if_neg h, Lib.decDigits]
 by_cases h1 : n < 10
 · rw [dif_pos h1, if_pos (by omega), List.nil_append, Nat.mod_eq_of_lt h1]
 · rw [dif_neg h1, if_neg (by omega)]
theorem digs_ne {n : Nat} (h : n ≠ 0) : digs n = Lib.decDigits n := by unfold digs; rw [if_neg h]
theorem digs_nil {n : Nat} : digs n = [] ↔ n = 0 := by
 constructor
 · intro h
   by_cases h0 : n = 0
   · exact h0
   · rw [digs_step h0] at h
     simp at h
 · intro h; rw [h]; rfl
def hexes : ByteArray := { data := #[48, 49, 50, 51, 52, 53, 54, 55, 56, 57, 97, 98, 99, 100, 101, 102] }
theorem hexes_fin : ∀ i : Fin 10, hexes.data.toList.getD i.val 0 = UInt8.ofNat (48 + i.val) := by decide +kernel
theorem str_append (l m : List UInt8) : (⟨l.toArray⟩ : ByteArray) ++ ⟨m.toArray⟩ = ⟨(l ++ m).toArray⟩ := by
 apply ByteArray.ext
 simp
theorem idx_hexes32 {P : Program} (t : TypeId) (ht : P.underlying t = some .string) (z : Int) (h0 : 0 ≤ z) (h1 : z < 10) (w : World) :
 (Instr.index t (.string hexes) (.int .u32 z)).run P w = .ok (.int .u8 ((UInt8.ofNat (48 + z.toNat)).toNat : Int)) w := by
 obtain ⟨i, rfl⟩ := Int.eq_ofNat_of_zero_le h0
 have hi : i < 10 := by omega
 have hs : hexes.size = 16 := by decide +kernel
 rw [run_index_string w t hexes .u32 _ ht, dif_pos ⟨by omega, by rw [hs]; omega⟩]
 have e : ((i : Int)).toNat = i := by omega
 simp only [e]
 rw [Lib.getD_at hexes i (by rw [hs]; omega)]
 have := hexes_fin ⟨i, hi⟩
 simp only at this
 rw [this]
set_option maxHeartbeats 2000000 in
set_option maxRecDepth 100000 in
theorem nat_Text (A : Option Addr) (c : Nat) (xs : List Int) (w : World) (h : In w A c xs) (hm : xs.length ≤ 1099511627776) (n : Nat) (hn : n = (V xs).toNat) (hlen : (Lib.decDigits n).length ≤ 1099511627776) :
 Calls Tryz.prog 126 #[.slice A xs.length c, .int .i64 10] w fun e w' => e = .returned (.tuple #[.string ⟨(Lib.decDigits n).toArray⟩, .int .i64 0]) ∧ Below w.heap.size w w' := by
 have hN := Lib.hid (nat_own A c xs w h.row h.lim h.cap hm)
 have hnf : nf xs = dg n := by unfold nf; rw [hn]
 rw [hnf] at hN
 have hlx : (dg n).length ≤ xs.length := by rw [hn]; exact dg_len_of_V h.lim
 clear hnf
 clear h hn
 have hix := fun (z : Int) (h0 : 0 ≤ z) (h1 : z < 10) (W : World) => idx_hexes32 (P := Tryz.prog) 9 Tryz.underlying9 z h0 h1 W
 unfold hexes at hix
 replace hix := Lib.hid hix
 go_enter Tryz.func126, Tryz.ntmps126
 go_wp2_with fail
 refine hN.out.mono ?_
 rintro e w1 ⟨A1, c1, rfl, q0, q1, q2⟩
 have HB1 := Lib.hid q2
 have Q1 := Lib.hid (show In w1 A1 c1 (dg n) from ⟨q1, Lim_dg n, q0⟩)
 clear q0 q1 q2 hN
 have hi8 : (Tryz.prog.info? 5).map (fun i => (i.zero, i.size, i.bytes)) = some (some (.int .u8 0), 1, 1) := by kernel_rfl
 have HI8 := Lib.hid hi8
 clear hi8
 go_wp2
 go_loopg [6, 7] n (fun gg s6 s7 wr => ∃ (m : Nat) (A' : Option Addr) (c' : Nat) (E : Option Addr) (j : Nat) (l : List UInt8), m ≤ gg ∧ s7 = .slice A' (dg m).length c' ∧ s6 = .slice E l.length j ∧ (dg m).length ≤ xs.length ∧ Hid (In wr A' c' (dg m)) ∧ Hid (OwnB wr w.heap.size 5 (.slice E l.length j) l) ∧ Hid (Below w.heap.size w wr) ∧ Hid (digs m ++ l.reverse = digs n))
 case atStart =>
  exact ⟨n, A1, c1, none, 0, [], Nat.le_refl _, rfl, rfl, hlx, Q1, OwnB.nil _ _ _, HB1, (show Hid (digs n ++ ([] : List UInt8).reverse = digs n) from by show _ = _; simp)⟩
 case round =>
  obtain ⟨m, A', c', E, j, l, hmg, rfl, rfl, hml, HI, HO, HB, HD⟩ := hrel
  by_cases h0 : m = 0
  · subst h0
    have hlr := Lib.hid (show l.reverse = digs n by have := HD.out; rwa [digs_zero, List.nil_append] at this)
    have hz : (dg 0).length = 0 := by rw [dg_zero]; rfl
    rw [hz]
    clear HI HD hz hmg
    by_cases hn0 : n = 0
    · have hl0 : l = [] := by
       have := hlr.out
       rw [hn0, digs_zero] at this
       simpa using this
      subst hl0
      have e1 : Lib.decDigits n = [48] := by rw [hn0, Lib.decDigits, dif_pos (by omega)]; rfl
      simp only [List.length_nil]
      go_wp2
      go_ret2
      rw [e1]
      exact ⟨rfl, HB.out⟩
    · have hdl : l.reverse = Lib.decDigits n := by rw [hlr.out, digs_ne hn0]
      have hne : l ≠ [] := fun e => by
       rw [e] at hlr
       exact hn0 (digs_nil.1 hlr.out.symm)
      have hl1 : 0 < l.length := List.length_pos_iff.2 hne
      have hll : l.length ≤ 1099511627776 := by rw [← hdl, List.length_reverse] at hlen; exact hlen
      have hl2 : ¬ ((l.length : Nat) : Int) = 0 := by omega
      have hl3 : ¬ l.length = 0 := by omega
      have HDL := Lib.hid hdl
      have hmk := fun W => run_makeB (P := Tryz.prog) 89 5 Tryz.underlying89 HI8.out (l.length : Int) l.length rfl (by omega) W
      clear hlr hne hdl hn0
      go_wp2
      clear hmk
      obtain ⟨w0, rfl⟩ : ∃ w0, w0 = wr := ⟨wr, rfl⟩
      obtain ⟨A9, c9, hv9, hj9, hc9, _⟩ := HO.out.form
      simp only [Value.slice.injEq] at hv9
      obtain ⟨rfl, -, rfl⟩ := hv9
      have HC := Lib.hid hc9
      clear hc9 HO
      go_loopg [44] l.length (fun gg s44 w2 => ∃ (i : Nat) (os : List UInt8), i ≤ l.length ∧ l.length - i ≤ gg ∧ s44 = .int .i64 i ∧ os.length = l.length ∧ Hid (Own w2 w0.heap.size (bc os)) ∧ Hid (Below w0.heap.size w0 w2) ∧ Hid (∀ k (h1 : k < os.length) (h2 : k < l.length), k < i → os[l.length - 1 - k]? = some l[k]))
      case atStart => exact ⟨0, List.replicate l.length 0, Nat.zero_le _, by omega, rfl, by simp, own_zerosB _ _ _, (Below.refl _ _).alloc (Nat.le_refl _) _, fun k h1 h2 h3 => by omega⟩
      case round =>
       obtain ⟨i, os, hi, hg2, rfl, hos, HO2, HB2, HE⟩ := hrel
       by_cases hlt : i < l.length
       · have hltz : (i : Int) < (l.length : Int) := by omega
         obtain ⟨ad, rfl, hcell⟩ := HC.out i hlt
         have hce := cell_below HB2.out hcell
         have hpos : l.length - 1 - i < os.length := by omega
         have c3 := ownB_cell HO2.out (l.length - 1 - i) hpos
         have c4 := Own.frozen HO2.out (l.length - 1 - i)
         have hz1 : ((l.length : Int) - 1 - (i : Int)) = ((l.length - 1 - i : Nat) : Int) := by omega
         have HS := Lib.hid (show ∀ k (h1 : k < (os.set (l.length - 1 - i) l[i]).length) (h2 : k < l.length), k < i + 1 → (os.set (l.length - 1 - i) l[i])[l.length - 1 - k]? = some l[k] from fun k h1 h2 h3 => by
          by_cases e : k = i
          · subst e; rw [List.getElem?_set_self hpos]
          · rw [List.getElem?_set_ne (by omega)]; exact HE.out k (by simpa using h1) h2 (by omega))
         have HO3 := Lib.hid (ownB_set HO2.out (l.length - 1 - i) l[i])
         have ho3 : (os.set (l.length - 1 - i) l[i]).length = l.length := by simpa using hos
         have hpz : ((l.length - 1 - i : Nat) : Int) < (l.length : Int) := by omega
         have hpq : (l.length - 1 - i : Nat) < l.length := by omega
         clear HE HO2 hcell
         generalize os.set (l.length - 1 - i) l[i] = os' at *
         generalize l[i].toNat = x at *
         generalize os[l.length - 1 - i].toNat = z at *
         generalize l.length - 1 - i = p at *
         go_wp2
         go_roundg (l.length - (i + 1))
         case measure => omega
         case rel => exact ⟨i + 1, os', by omega, by omega, by go_num, ho3, HO3, HB2.out.setCell (Nat.le_refl _) _, HS⟩
       · have hltz : ¬ (i : Int) < (l.length : Int) := by omega
         have heq : os = l.reverse := List.ext_getElem (by simpa using hos) fun k h1 h2 => by
          have := HE.out (l.length - 1 - k) (by omega) (by omega) (by omega)
          rw [show l.length - 1 - (l.length - 1 - k) = k by omega, List.getElem?_eq_getElem h1] at this
          rw [Option.some.inj this, List.getElem_reverse]
         have hst := ownB_str (P := Tryz.prog) (src := 89) (dst := 9) (e := 5) (c := l.length) HO2.out Tryz.underlying89 Tryz.underlying5 Tryz.underlying9
         rw [hos, heq, HDL.out] at hst
         have HB3 := Lib.hid (HB.out.trans (HB2.out.mono HB.out.size))
         clear HE heq HO2
         go_wp2
         go_ret2
         exact ⟨rfl, HB3.out⟩
  · have hm0 : 0 < (dg m).length := List.length_pos_iff.2 fun e => h0 (dg_eq_nil.1 e)
    have hmz : (0 : Int) < ((dg m).length : Int) := by omega
    have hT := Lib.hid (nat_short A' c' (dg m) 10 wr HI.out.row HI.out.lim HI.out.cap (by omega) (by decide) (by decide))
    have hD2 := digs_step h0
    have hlen2 : (dg (m / 10)).length ≤ xs.length := Nat.le_trans (dg_length_mono (Nat.div_le_self ..)) hml
    have hlim : l.length ≤ 1099511627776 := by
     have e := congrArg List.length HD.out
     rw [List.length_append, List.length_reverse] at e
     have : (digs n).length ≤ (Lib.decDigits n).length := by unfold digs; split <;> simp
     omega
    have HL2 := Lib.hid (show digs (m / 10) ++ (l ++ [UInt8.ofNat (48 + m % 10)]).reverse = digs n by
     rw [← HD.out, hD2, List.reverse_append]; simp)
    have hix1 := hix.out ((m % 10 : Nat) : Int) (by omega) (by omega)
    rw [show ((m % 10 : Nat) : Int).toNat = m % 10 by omega] at hix1
    have HTr := Lib.hid (show ∀ (W : World) (g : Nat) (qs : List Int) (r : Int), qs.length = (dg m).length → OwnN W g qs → Lim qs → V qs * 10 + r = V (dg m) → 0 ≤ r → r < 10 → r = ((m % 10 : Nat) : Int) ∧ Calls Tryz.prog 197 #[.slice (some ⟨g, 0, none⟩) qs.length qs.length] W fun e w' => e = .returned (.slice (some ⟨g, 0, none⟩) (dg (m / 10)).length qs.length) ∧ In w' (some ⟨g, 0, none⟩) qs.length (dg (m / 10)) ∧ Below W.heap.size W w' from fun W g qs r hq ho hl hv h1 h2 => by
     rw [V_dg] at hv
     have hV : V qs = ((m / 10 : Nat) : Int) := by omega
     have hn : nf qs = dg (m / 10) := by unfold nf; rw [hV]; rfl
     have ht := nat_trim (some ⟨g, 0, none⟩) qs.length qs W ho.row hl (Nat.le_refl _) (by omega)
     rw [hn] at ht
     refine ⟨by omega, ht.mono fun e w' ⟨he, hr, hb⟩ => ⟨he, ⟨hr, Lim_dg _, ?_⟩, hb⟩⟩
     have := nf_len hl
     rw [hn] at this
     exact this)
    have hmd : m / 10 < m := Nat.div_lt_self (by omega) (by omega)
    replace hix1 := Lib.hid hix1
    clear hD2 HD HI h0
    generalize UInt8.ofNat (48 + m % 10) = b at *
    generalize ((m % 10 : Nat) : Int) = d at *
    generalize m / 10 = q at *
    go_wp2_with fail
    refine hT.out.mono ?_
    rintro e w1 ⟨g2, qs, r, rfl, q1, q2, q3, q4, q5, q6, q7, q8⟩
    obtain ⟨hr, ht⟩ := HTr.out w1 g2 qs r q1 q2 q4 q5 q6 q7
    subst hr
    have HTm := Lib.hid ht
    replace HB := Lib.hid (HB.out.trans (q8.mono HB.out.size))
    replace HO := Lib.hid (HO.out.below q8)
    clear q1 q2 q3 q4 q5 q6 q7 q8 hT ht HTr
    go_wp2_with fail
    refine HTm.out.mono ?_
    rintro e w2 ⟨rfl, q1, q2⟩
    have HI2 := Lib.hid q1
    replace HB := Lib.hid (HB.out.trans (q2.mono HB.out.size))
    replace HO := Lib.hid (HO.out.below q2)
    clear q1 q2 HTm
    have hal := Lib.hid ((Below.refl _ w2).alloc (Nat.le_refl _) (.cells #[.int .u8 b.toNat] 5))
    obtain ⟨v', w3, hrun, hO', hS'⟩ := pushB (P := Tryz.prog) (t := 89) (u := 89) (ty := 89) (x := .slice (some ⟨w2.heap.size, 0, none⟩) 1 1) (m := [b]) (w := w2.alloc (.cells #[.int .u8 b.toNat] 5)) Tryz.underlying89 HI8.out (HO.out.below hal.out)
     (Src.row rfl Tryz.underlying89 (fun j u hj => by
      cases j with
      | zero =>
       simp [bc] at hj
       subst hj
       simp [go_sem]
      | succ j => simp [bc] at hj)) (by simp; omega) (Nat.le_trans HB.out.size (by simp))
    obtain ⟨E', j', rfl, hj', _, _⟩ := hO'.form
    have HP := Lib.hid hrun
    have HO2 := Lib.hid hO'
    have HI3 := Lib.hid ((HI2.out.below hal.out).keep hS'.keep)
    have HB3 := Lib.hid ((HB.out.alloc HB.out.size _).trans hS'.below)
    clear hrun hO' hS' hal HI2 HB HO hj'
    generalize l ++ [b] = l' at *
    have hix2 := hix1.out
    go_wp2_with (refine pushBL_ rfl rfl rfl rfl HP.out ?_; clear HP hix2)
    go_roundg q
    case measure => omega
    case rel => exact ⟨q, _, _, E', j', l', Nat.le_refl _, rfl, rfl, hlen2, HI3, HO2, HB3, HL2⟩
set_option maxHeartbeats 1000000 in
set_option maxRecDepth 100000 in
theorem whole_Text (n : Int) (A : Option Addr) (c : Nat) (w : World) (h : In w A c (dg n.natAbs)) (hm : (dg n.natAbs).length ≤ 1099511627776) (hlen : (Lib.decDigits n.natAbs).length ≤ 1099511627776) :
 Calls Tryz.prog 61 #[.agg #[.bool (decide (n < 0)), .slice A (dg n.natAbs).length c]] w fun e w' => e = .returned (.string ⟨(Lib.itoa n).toArray⟩) ∧ Below w.heap.size w w' := by
 have HF := Lib.hid ((Fr.refl w).box [.bool (decide (n < 0)), .slice A (dg n.natAbs).length c] 41)
 have hv : (V (dg n.natAbs)).toNat = n.natAbs := by rw [V_dg]; omega
 have hT := Lib.hid (fun (W : World) (A' : Option Addr) (c' : Nat) (k : In W A' c' (dg n.natAbs)) => nat_Text A' c' (dg n.natAbs) W k hm n.natAbs hv.symm hlen)
 have hS := Lib.hid (fun (W : World) (hb : Below w.heap.size w W) => whole_Sign (decide (n < 0)) A c (dg n.natAbs) W (h.below hb).row (h.below hb).lim (h.below hb).cap hm)
 rw [iv_can] at hS
 have h0 := h
 clear h hv
 have hit : Hid (Lib.itoa n = if n < 0 then 45 :: Lib.decDigits n.natAbs else Lib.decDigits n.natAbs) := by
  show _ = _
  unfold Lib.itoa
  split
  · rfl
  · rw [show n.toNat = n.natAbs by omega]
 obtain ⟨it, hit2⟩ : ∃ it, it = Lib.itoa n := ⟨_, rfl⟩
 rw [← hit2] at hit ⊢
 clear hit2
 have b0 := HF.out.cellN 0 rfl 0 rfl
 have b1 := HF.out.cellN 0 rfl 1 rfl
 have hmf := Lib.hid (Below.refl w.heap.size w)
 go_enter Tryz.func61, Tryz.ntmps61
 have Q1 := Lib.hid (h0.below HF.out.bel)
 go_wp2_with fail
 refine (hT.out _ A c Q1.out).mono ?_
 rintro e W2 ⟨rfl, q2⟩
 replace HF := Lib.hid (HF.out.below q2)
 clear q2 hT Q1 b0 b1
 have b0 := HF.out.cellN 0 rfl 0 rfl
 have b1 := HF.out.cellN 0 rfl 1 rfl
 go_wp2_with fail
 refine (hS.out _ HF.out.bel).mono ?_
 rintro e W3 ⟨rfl, q2⟩
 replace HF := Lib.hid (HF.out.below q2)
 clear q2 hS b0 b1
 by_cases hn : n < 0
 · have hs : sgn n = -1 := by unfold sgn; rw [if_pos hn]
   rw [hs]
   have hit' : it = 45 :: Lib.decDigits n.natAbs := by rw [hit.out, if_pos hn]
   have e1 : (⟨#[45]⟩ : ByteArray) ++ ⟨(Lib.decDigits n.natAbs).toArray⟩ = ⟨it.toArray⟩ := by
    rw [hit', show (⟨#[45]⟩ : ByteArray) = ⟨[45].toArray⟩ from rfl, str_append]
    rfl
   clear hs hit hit'
   go_wp2
   go_ret
   exact ⟨rfl, HF.out.bel⟩
 · have hs : sgn n = 0 ∨ sgn n = 1 := by unfold sgn; rw [if_neg hn]; split <;> simp
   have hit' : it = Lib.decDigits n.natAbs := by rw [hit.out, if_neg hn]
   have HI := Lib.hid hit'
   have hs' : ¬ sgn n < 0 := by omega
   generalize sgn n = sn at *
   clear hs hit hit'
   go_wp2
   go_ret
   rw [HI.out]
   exact ⟨rfl, HF.out.bel⟩
theorem decDigits_limbs {n k : Nat} (h : (n : Int) < Bp k) : (Lib.decDigits n).length ≤ 10 * k + 1 := by
 have h1 : n < 10 ^ (10 * k + 1) := by
  have h2 : (4294967296 : Nat) ^ k ≤ (10 ^ 10) ^ k := Nat.pow_le_pow_left (by decide) k
  have h3 : (10 : Nat) ^ (10 * k + 1) = (10 ^ 10) ^ k * 10 := by rw [Nat.pow_succ, Nat.pow_mul]
  have h4 : (n : Int) < ((4294967296 ^ k : Nat) : Int) := by
   have := h
   unfold Bp at this
   rw [Int.natCast_pow]
   exact this
  have h5 : n < 4294967296 ^ k := by omega
  omega
 exact (decDigits_len (10 * k) n).1 h1
theorem dg_texts {n k : Nat} (h : (dg n).length ≤ k) : (Lib.decDigits n).length ≤ 10 * k + 1 := by
 refine decDigits_limbs (Int.lt_of_lt_of_le ?_ (Bp_le h))
 have := V_lt (Lim_dg n)
 rwa [V_dg] at this
theorem ratio_decimal (A : Option Addr) (c n : Nat) (w : World) (h : In w A c (dg n)) (hm : (dg n).length ≤ 1099511627) :
 Calls Tryz.prog 125 #[.slice A (dg n).length c] w fun e w' => e = .returned (.string ⟨(Lib.decDigits n).toArray⟩) ∧ Below w.heap.size w w' := by
 have hT := Lib.hid (nat_Text A c (dg n) w h (by omega) n (by rw [V_dg]; omega) (by have := dg_texts hm; omega))
 clear h
 go_enter Tryz.func125, Tryz.ntmps125
 go_wp2_with fail
 refine hT.out.mono ?_
 rintro e W1 ⟨rfl, q1⟩
 have HB := Lib.hid q1
 clear q1 hT
 go_wp2
 go_ret
 exact ⟨rfl, HB.out⟩
open Go.Proofs.YtidgpkccjcddgaaGreatDoorW.PrintLast
theorem itoa_len (x : Int) : (Lib.itoa x).length ≤ (Lib.decDigits x.natAbs).length + 1 := by
 unfold Lib.itoa
 split
 · simp
 · rw [show x.toNat = x.natAbs by omega]; omega
set_option maxHeartbeats 1000000 in
set_option maxRecDepth 100000 in
theorem ratio_Text (s : Bool) (A : Option Addr) (c : Nat) (xs : List Int) (B : Option Addr) (d : Nat) (ys : List Int) (w : World) (h : In w A c xs) (hm : xs.length ≤ 549755813) (k : In w B d ys) (km : ys.length ≤ 549755813) :
 Calls Tryz.prog 60 #[.agg #[.bool s, .slice A xs.length c, .slice B ys.length d]] w fun e w' => e = .returned (.string ⟨(tq (rv s xs ys)).toArray⟩) ∧ Below w.heap.size w w' := by
 have HF := Lib.hid ((Fr.refl w).box [.bool s, .slice A xs.length c, .slice B ys.length d] 43)
 have hN := Lib.hid (fun (W : World) (hb : Below w.heap.size w W) => ratio_Norm s A c xs B d ys W (h.below hb) (by omega) (k.below hb) (by omega))
 have hsz := rv_len s h.lim k.lim
 have b0 := HF.out.cellN 0 rfl 0 rfl
 have b1 := HF.out.cellN 0 rfl 1 rfl
 have b2 := HF.out.cellN 0 rfl 2 rfl
 clear h k
 generalize rv s xs ys = q at *
 have hT := Lib.hid (fun (W : World) (A' : Option Addr) (c' : Nat) (k : In W A' c' (dg q.num.natAbs)) => whole_Text q.num A' c' W k (by omega) (by have := dg_texts (Nat.le_trans hsz.1 hm); omega))
 have hD := Lib.hid (fun (W : World) (A' : Option Addr) (c' : Nat) (k : In W A' c' (dg q.den)) => ratio_decimal A' c' q.den W k (by omega))
 have hC := Lib.hid (fun (W : World) (A' : Option Addr) (c' : Nat) (B' : Option Addr) (k : In W A' c' (dg q.den)) (k1 : In W B' 1 [1]) => nat_Cmp A' c' (dg q.den) B' 1 [1] W k.row k.lim k.cap (by omega) k1.row k1.lim k1.cap (by decide))
 have hq : tq q = Lib.itoa q.num ++ if q.den = 1 then [] else 47 :: Lib.decDigits q.den := rfl
 have HQ := Lib.hid hq
 have hlD : (Lib.decDigits q.den).length ≤ 9000000000 := by have := dg_texts hsz.2; omega
 have hlI : (Lib.itoa q.num).length ≤ 9000000000 := by have := dg_texts hsz.1; have := itoa_len q.num; omega
 clear hq hsz
 generalize tq q = res at *
 go_enter Tryz.func60, Tryz.ntmps60
 go_wp2_with fail
 refine (hN.out _ HF.out.bel).mono ?_
 rintro e W1 ⟨A1, c1, B1, d1, rfl, q1, q2, q3⟩
 generalize decide (q.num < 0) = nb at *
 have hgw : w.heap.size ≤ w.heap.size := Nat.le_refl _
 replace HF := Lib.hid (HF.out.below q3)
 have hf0 := HF.out.frozenN 0 rfl 0
 have hf1 := HF.out.frozenN 0 rfl 1
 have hf2 := HF.out.frozenN 0 rfl 2
 have hd0 := HF.out.cellN 0 rfl 0 rfl
 have hd1 := HF.out.cellN 0 rfl 1 rfl
 have hd2 := HF.out.cellN 0 rfl 2 rfl
 have HK := Lib.hid (And.intro ((InQ.mk q1 q2).put3 (HF.out.ownN 0 rfl) (by simp) (a := .bool nb) (by simp) (b := .slice A1 (dg q.num.natAbs).length c1) (by simp) (.slice B1 (dg q.den).length d1))
  (((HF.out.set hgw (by simp) 0 (.bool nb)).set hgw (by simp) 1 (.slice A1 (dg q.num.natAbs).length c1)).set hgw (by simp) 2 (.slice B1 (dg q.den).length d1)))
 clear q1 q2 q3 hN b0 b1 b2 HF
 have HQ2 := Lib.hid HK.out.1
 have HF := Lib.hid HK.out.2
 clear HK
 go_wp2_with fail
 refine (hT.out _ A1 c1 HQ2.out.num).mono ?_
 rintro e W3 ⟨rfl, q1⟩
 replace HF := Lib.hid (HF.out.below q1)
 replace HQ2 := Lib.hid (HQ2.out.below q1)
 clear q1 hT hf0 hf1 hf2 hd0 hd1 hd2
 have b2 := HF.out.cellN 0 rfl 2 rfl
 have hal : Below W3.heap.size W3 (W3.alloc (.cells #[.int .u32 1] 133)) := (Below.refl _ W3).alloc (Nat.le_refl _) _
 have h1 : In (W3.alloc (.cells #[.int .u32 1] 133)) (some ⟨W3.heap.size, 0, none⟩) 1 [1] := ⟨(show OwnN (W3.alloc (.cells #[.int .u32 1] 133)) W3.heap.size [1] from Own.mk [.int .u32 1] 133).row, by intro x hx; rw [List.mem_singleton.1 hx]; decide, by simp⟩
 have hCx := Lib.hid (hC.out _ B1 d1 _ (HQ2.out.den.below hal) h1)
 have HF3 := Lib.hid (HF.out.below hal)
 have HQ3 := Lib.hid (HQ2.out.below hal)
 clear hC h1 hal HF HQ2
 go_wp2_with fail
 refine hCx.out.mono ?_
 rintro e W4 ⟨rfl, q1⟩
 have HF := Lib.hid (HF3.out.below q1)
 have HQ2 := Lib.hid (HQ3.out.below q1)
 clear q1 hCx HF3 HQ3 b2
 have b2 := HF.out.cellN 0 rfl 2 rfl
 by_cases hden : q.den = 1
 · have hr : res = Lib.itoa q.num := by rw [HQ.out, if_pos hden, List.append_nil]
   have HR := Lib.hid hr
   have hdd : sgn (V (dg q.den) - V [1]) = 0 := by rw [V_dg, hden]; rfl
   rw [hdd]
   clear hdd
   clear HQ hden hr hD
   go_wp2
   go_ret
   rw [HR.out]
   exact ⟨rfl, HF.out.bel⟩
 · have hr : res = Lib.itoa q.num ++ 47 :: Lib.decDigits q.den := by rw [HQ.out, if_neg hden]
   have HR := Lib.hid (show (⟨(Lib.itoa q.num).toArray⟩ : ByteArray) ++ (⟨#[47]⟩ ++ ⟨(Lib.decDigits q.den).toArray⟩) = ⟨res.toArray⟩ by
    rw [hr, show (⟨#[47]⟩ : ByteArray) = ⟨[47].toArray⟩ from rfl, str_append, str_append]
    rfl)
   have hdd : sgn (V (dg q.den) - V [1]) ≠ 0 := by
    have hp := q.den_pos
    rw [V_dg, show V [1] = 1 from rfl]
    unfold sgn
    rw [if_neg (by omega), if_pos (by omega)]
    decide
   have hdb : (sgn (V (dg q.den) - V [1]) != 0) = true := by simpa using hdd
   generalize sgn (V (dg q.den) - V [1]) = sg at *
   clear hdd
   clear HQ hden hr
   go_wp2_with fail
   refine (hD.out _ B1 d1 HQ2.out.den).mono ?_
   rintro e W5 ⟨rfl, q1⟩
   replace HF := Lib.hid (HF.out.below q1)
   clear q1 hD HQ2 b2
   have hR := HR.out
   go_wp2
   go_ret
   exact ⟨rfl, HF.out.bel⟩
theorem MC.At.below {w w' : World} {r : MC} (h : r.At w) (hb : Below w.heap.size w w') : r.At w' := h.keep (KeepU.below hb)
structure TxOk (l : Frm) : Prop where
 var : ∀ m ∈ l, -9223372036854775808 ≤ m.1 ∧ m.1 ≤ 9223372036854775807
 num : ∀ m ∈ l, (dg m.2.num.natAbs).length ≤ 549755813 ∧ (dg m.2.den).length ≤ 549755813
 len : (joinC 43 (l.map tt)).length ≤ 4611686018427387904
 few : l.length ≤ 1099511627776
theorem joinC_len (c : UInt8) (l m : List (List UInt8)) : (joinC c l).length ≤ (joinC c (l ++ m)).length := by
 induction l with
 | nil => exact Nat.zero_le _
 | cons x l ih =>
  cases l with
  | nil =>
   cases m with
   | nil => exact Nat.le_refl _
   | cons y m =>
    rw [List.cons_append, List.nil_append, joinC_cons c (List.cons_ne_nil y m)]
    simp [joinC]
  | cons y l =>
   rw [List.cons_append, joinC_cons c (List.cons_ne_nil y l), joinC_cons c (show (y :: l) ++ m ≠ [] by simp)]
   simp only [List.length_append, List.length_cons] at ih ⊢
   omega
def pre (l : Frm) (i : Nat) : List UInt8 := joinC 43 ((l.take i).map tt)
theorem pre_len (l : Frm) (i : Nat) : (pre l i).length ≤ (joinC 43 (l.map tt)).length := by
 have := joinC_len 43 ((l.take i).map tt) ((l.drop i).map tt)
 rwa [← List.map_append, List.take_append_drop] at this
theorem pre_one (l : Frm) (h : 0 < l.length) : pre l 1 = tt l[0] := by
 unfold pre
 cases l with
 | nil => simp at h
 | cons m r => simp [joinC]
theorem pre_succ (l : Frm) (i : Nat) (h0 : 0 < i) (h : i < l.length) : pre l (i + 1) = pre l i ++ 43 :: tt l[i] := by
 unfold pre
 rw [List.take_succ_eq_append_getElem h, List.map_append, List.map_cons, List.map_nil, joinC_snoc, if_neg]
 intro e
 have := congrArg List.length e
 rw [List.length_map, List.length_take, List.length_nil] at this
 omega
theorem pre_all (l : Frm) : pre l l.length = joinC 43 (l.map tt) := by unfold pre; rw [List.take_length]
theorem itoa_txt (x : Int) (h0 : -9223372036854775808 ≤ x) (h1 : x ≤ 9223372036854775807) : (dg x.natAbs).length ≤ 2 ∧ (Lib.decDigits x.natAbs).length ≤ 9000000000 := by
 have h2 : (dg x.natAbs).length ≤ 2 := dg_length_le (by show _ < (4294967296 : Int) ^ 2; omega)
 have := dg_texts (n := x.natAbs) (k := 2) h2
 omega
set_option maxHeartbeats 2000000 in
set_option maxRecDepth 100000 in
theorem linear_Text (A : Option Addr) (c : Nat) (f : List (Int × RatD)) (w : World) (h : FRaw w A c f) (hx : TxOk (nform (fval f))) :
 Calls Tryz.prog 17 #[.slice A f.length c] w fun e w' => e = .returned (.string ⟨(tf (nform (fval f))).toArray⟩) ∧ Below w.heap.size w w' := by
 have hN := Lib.hid (linear_Norm f.length A c f w (Nat.le_refl _) h)
 generalize nform (fval f) = l at *
 have HX := Lib.hid hx
 have hlf := hx.few
 clear h hx
 go_enter Tryz.func17, Tryz.ntmps17
 go_wp2_with fail
 refine hN.out.mono ?_
 rintro e W1 ⟨v, rfl, h1, hb⟩
 have HF := Lib.hid ((Fr.refl w).below hb)
 obtain ⟨E1, j1, rfl, k1⟩ := h1.fin
 have HI := Lib.hid k1
 clear h1 k1 hb hN
 go_wp2_with fail
 go_loopg [3, 9] l.length (fun gg s3 s9 wr => ∃ (i : Nat) (P : List UInt8), i + gg = l.length ∧ s9 = .int .i64 i ∧ s3 = .string ⟨P.toArray⟩ ∧ Hid (P = pre l i) ∧ Hid (Fr w wr []) ∧ Hid (FIn wr E1 j1 l))
 case atStart => exact ⟨0, [], by omega, rfl, rfl, by show _ = _; rfl, HF, HI⟩
 case round =>
  clear HF HI
  obtain ⟨i, P, hg, rfl, rfl, HP, HF, HI⟩ := hrel
  by_cases hlt : i < l.length
  · have hltz : (i : Int) < (l.length : Int) := by omega
    obtain ⟨ad, r, rfl, hvq, hat, q1, q2, q3, q4⟩ := HI.out.at_ i hlt
    have hmem := List.getElem_mem hlt
    rw [← hvq] at hmem
    have hlv := HX.out.var _ hmem
    have hln := HX.out.num _ hmem
    have hR := Lib.hid (fun (W : World) (k : r.At W) => ratio_Text (decide (r.q.num < 0)) r.A r.c (dg r.q.num.natAbs) r.B r.d (dg r.q.den) W k.inq.num hln.1 k.inq.den hln.2)
    simp only [rv_can] at hR
    have hO := Lib.hid (fun (W : World) => whole_Of r.v W hlv.1 hlv.2)
    have ht2 := itoa_txt r.v hlv.1 hlv.2
    have hT := Lib.hid (fun (W : World) (A' : Option Addr) (c' : Nat) (k : In W A' c' (dg r.v.natAbs)) => whole_Text r.v A' c' W k (by omega) (by omega))
    have hA := Lib.hid hat
    have hpl := Nat.le_trans (pre_len l (i + 1)) HX.out.len
    have hne : Hid (tt l[i] = tq r.q ++ 42 :: 120 :: Lib.itoa r.v) := by show _ = _; rw [← hvq]; rfl
    clear hat hmem hlv hln ht2
    generalize tq r.q = tx at *
    generalize Lib.itoa r.v = ty at *
    have HB := HF
    replace HF := Lib.hid (HF.out.box r.cells 57)
    have hal := Lib.hid ((Below.refl _ wr).alloc (Nat.le_refl _) (.cells r.cells.toArray 57))
    replace HI := Lib.hid (HI.out.below hal.out)
    replace hA := Lib.hid (hA.out.keep (KeepU.below hal.out))
    obtain ⟨rv0, rq0, rA, rc, rB, rd⟩ := r
    simp only [MC.cells] at HF HI hA hal q1 q2 q3 q4 hR hO hT
    by_cases hi0 : i = 0
    · have hi1 : ¬ (0 : Int) < (i : Int) := by omega
      have hP0 : P = [] := by rw [HP.out, hi0]; rfl
      subst hP0
      have HE := Lib.hid (show ([] : List UInt8) ++ (tx ++ 42 :: 120 :: ty) = pre l (i + 1) by subst hi0; rw [pre_one l hlt, hne.out]; rfl)
      have hlen : 0 + (tx.length + (2 + ty.length)) ≤ 4611686018427387904 := by have := congrArg List.length HE.out; simp only [List.length_append, List.length_cons, List.length_nil] at this; omega
      have HS := Lib.hid (show (⟨#[]⟩ : ByteArray) ++ ((⟨tx.toArray⟩ ++ ⟨#[42, 120]⟩) ++ ⟨ty.toArray⟩) = ⟨([] ++ (tx ++ 42 :: 120 :: ty)).toArray⟩ by
       rw [show (⟨#[42, 120]⟩ : ByteArray) = ⟨[42, 120].toArray⟩ from rfl, show (⟨#[]⟩ : ByteArray) = ⟨[].toArray⟩ from rfl, str_append, str_append, str_append]; simp)
      clear hne HP hpl hi0
      go_wp2_with fail
      clear hal q1 q2 q3 q4
      replace HI := Lib.hid (HI.out.below (Below.drew (Below.refl _ _)))
      replace hA := Lib.hid (hA.out.below (Below.drew (Below.refl _ _)))
      have HF_ := Lib.hid HF.out.drew
      clear HF
      have HF := HF_
      clear HF_
      refine start_ (n := 12) (S := fun w' => w'.cell? ⟨wr.heap.size, 0, none⟩ = some (.int .i64 rv0) ∧ w'.cell? ⟨wr.heap.size, 1, none⟩ = some (.bool (decide (rq0.num < 0))) ∧ w'.cell? ⟨wr.heap.size, 2, none⟩ = some (.slice rA (dg rq0.num.natAbs).length rc) ∧ w'.cell? ⟨wr.heap.size, 3, none⟩ = some (.slice rB (dg rq0.den).length rd)) (ds := []) #[false, false, false, false, false, false, false, false, false, false, false, false] (by kernel_rfl) rfl rfl ⟨HF.out.cellN 0 rfl 0 rfl, HF.out.cellN 0 rfl 1 rfl, HF.out.cellN 0 rfl 2 rfl, HF.out.cellN 0 rfl 3 rfl⟩ (fun hHeld => ?_)
      generalize World.drew _ = W at *
      refine pu_ (v := ?_) (a' := ?_) 0 (some 18) rfl rfl ?_ ?_ ?_
      rotate_left; · intro w'; go_simp; with_reducible rfl
      rotate_left
      · simp only [Act.put, sa_, sb_, sc_]
        rfl
      refine pu_ (v := ?_) (a' := ?_) 1 (some 19) rfl rfl ?_ ?_ ?_
      rotate_left; · intro w'; go_simp; with_reducible rfl
      rotate_left
      · simp only [Act.put, sa_, sb_, sc_]
        rfl
      refine pu_ (v := ?_) (a' := ?_) 5 (some 23) rfl rfl ?_ ?_ ?_
      rotate_left; · intro w'; go_simp; with_reducible rfl
      rotate_left
      · simp only [Act.put, sa_, sb_, sc_]
        rfl
      refine tk_ (v := ?_) (a' := ?_) 2 (some 20) rfl rfl ?_ hHeld ?_ ?_
      rotate_left
      · rintro w' ⟨s0, s1, s2, s3⟩; go_simp; with_reducible rfl
      rotate_left
      · simp only [Act.put, sa_, sb_, sc_]
        rfl
      refine tk_ (v := ?_) (a' := ?_) 6 (some 24) rfl rfl ?_ hHeld ?_ ?_
      rotate_left
      · rintro w' ⟨s0, s1, s2, s3⟩; go_simp; with_reducible rfl
      rotate_left
      · simp only [Act.put, sa_, sb_, sc_]
        rfl
      refine on_ 3 (N := (some 21)) rfl rfl (fun K hK => ?_)
      refine goes_ Tryz.func60 (by kernel_rfl) rfl #[.agg #[.bool (decide (rq0.num < 0)), .slice rA (dg rq0.num.natAbs).length rc, .slice rB (dg rq0.den).length rd]] (by rfl) rfl rfl (by (try simp only [List.map_toArray, List.map_cons, List.map_nil]); first | done | rfl) ?_
      refine (hR.out W hA.out).mono ?_
      rintro e W1 ⟨rfl, q1⟩
      refine ⟨_, rfl, ?_⟩
      replace HF := Lib.hid (HF.out.below q1)
      replace HI := Lib.hid (HI.out.below q1)
      clear q1 hA
      refine hK.out _ _ ⟨HF.out.cellN 0 rfl 0 rfl, HF.out.cellN 0 rfl 1 rfl, HF.out.cellN 0 rfl 2 rfl, HF.out.cellN 0 rfl 3 rfl⟩ (fun hHeld => ?_)
      clear hK K
      refine norm_ (a' := ?_) ?_ ?_
      rotate_left
      · show Act.put _ (some 21) _ = _
        simp only [Act.put, sa_, sb_, sc_]
        rfl
      refine pu_ (v := ?_) (a' := ?_) 4 (some 22) rfl rfl ?_ ?_ ?_
      rotate_left; · intro w'; go_simp; first | with_reducible rfl | rw [if_neg (by omega)]
      rotate_left
      · simp only [Act.put, sa_, sb_, sc_]
        rfl
      refine on_ 7 (N := (some 25)) rfl rfl (fun K hK => ?_)
      refine goes_ Tryz.func62 (by kernel_rfl) rfl #[.int .i64 rv0] (by rfl) rfl rfl (by (try simp only [List.map_toArray, List.map_cons, List.map_nil]); first | done | rfl) ?_
      refine (hO.out W1).mono ?_
      rintro e W2 ⟨A5, c5, rfl, q1, q2, q3⟩
      refine ⟨_, rfl, ?_⟩
      replace HF := Lib.hid (HF.out.below q3)
      replace HI := Lib.hid (HI.out.below q3)
      have H5 := Lib.hid (In.dg q2 q1)
      clear q1 q2 q3
      refine hK.out _ _ ⟨HF.out.cellN 0 rfl 0 rfl, HF.out.cellN 0 rfl 1 rfl, HF.out.cellN 0 rfl 2 rfl, HF.out.cellN 0 rfl 3 rfl⟩ (fun hHeld => ?_)
      clear hK K
      refine norm_ (a' := ?_) ?_ ?_
      rotate_left
      · show Act.put _ (some 25) _ = _
        simp only [Act.put, sa_, sb_, sc_]
        rfl
      refine on_ 8 (N := (some 26)) rfl rfl (fun K hK => ?_)
      refine goes_ Tryz.func61 (by kernel_rfl) rfl #[.agg #[.bool (decide (rv0 < 0)), .slice A5 (dg rv0.natAbs).length c5]] (by rfl) rfl rfl (by (try simp only [List.map_toArray, List.map_cons, List.map_nil]); first | done | rfl) ?_
      refine (hT.out W2 A5 c5 H5.out).mono ?_
      rintro e W3 ⟨rfl, q1⟩
      refine ⟨_, rfl, ?_⟩
      replace HF := Lib.hid (HF.out.below q1)
      replace HI := Lib.hid (HI.out.below q1)
      clear q1 H5
      refine hK.out _ _ ⟨HF.out.cellN 0 rfl 0 rfl, HF.out.cellN 0 rfl 1 rfl, HF.out.cellN 0 rfl 2 rfl, HF.out.cellN 0 rfl 3 rfl⟩ (fun hHeld => ?_)
      clear hK K
      refine norm_ (a' := ?_) ?_ ?_
      rotate_left
      · show Act.put _ (some 26) _ = _
        simp only [Act.put, sa_, sb_, sc_]
        rfl
      refine pu_ (v := ?_) (a' := ?_) 9 (some 27) rfl rfl ?_ ?_ ?_
      rotate_left; · intro w'; go_simp; first | with_reducible rfl | rw [if_neg (by omega)]
      rotate_left
      · simp only [Act.put, sa_, sb_, sc_]
        rfl
      refine pu_ (v := ?_) (a' := ?_) 10 (some 28) rfl rfl ?_ ?_ ?_
      rotate_left; · intro w'; go_simp; first | with_reducible rfl | rw [if_neg (by omega)]
      rotate_left
      · simp only [Act.put, sa_, sb_, sc_]
        rfl
      refine pu_ (v := ?_) (a' := ?_) 11 (some 3) rfl rfl ?_ ?_ ?_
      rotate_left; · intro w'; go_simp; with_reducible rfl
      rotate_left
      · simp only [Act.put, sa_, sb_, sc_]
        rfl
      refine done_ (by kernel_rfl) ?_
      go_wp2
      go_roundg (l.length - (i + 1))
      case measure => omega
      case rel => exact ⟨i + 1, _, by omega, by go_num, congrArg Value.string HS.out, HE, HF.out.tail, HI⟩
    · have hi1 : (0 : Int) < (i : Int) := by omega
      have HE := Lib.hid (show (P ++ [43]) ++ (tx ++ 42 :: 120 :: ty) = pre l (i + 1) by rw [pre_succ l i (by omega) hlt, hne.out, HP.out]; simp)
      have hlen : P.length + 1 + (tx.length + (2 + ty.length)) ≤ 4611686018427387904 := by have := congrArg List.length HE.out; simp only [List.length_append, List.length_cons, List.length_nil] at this; omega
      have HS := Lib.hid (show (⟨P.toArray⟩ : ByteArray) ++ ⟨#[43]⟩ ++ ((⟨tx.toArray⟩ ++ ⟨#[42, 120]⟩) ++ ⟨ty.toArray⟩) = ⟨((P ++ [43]) ++ (tx ++ 42 :: 120 :: ty)).toArray⟩ by
       rw [show (⟨#[42, 120]⟩ : ByteArray) = ⟨[42, 120].toArray⟩ from rfl, show (⟨#[43]⟩ : ByteArray) = ⟨[43].toArray⟩ from rfl, str_append, str_append, str_append, str_append]; simp)
      clear hne HP hpl
      go_wp2_with fail
      clear hal q1 q2 q3 q4
      replace HI := Lib.hid (HI.out.below (Below.drew (Below.refl _ _)))
      replace hA := Lib.hid (hA.out.below (Below.drew (Below.refl _ _)))
      have HF_ := Lib.hid HF.out.drew
      clear HF
      have HF := HF_
      clear HF_
      refine start_ (n := 12) (S := fun w' => w'.cell? ⟨wr.heap.size, 0, none⟩ = some (.int .i64 rv0) ∧ w'.cell? ⟨wr.heap.size, 1, none⟩ = some (.bool (decide (rq0.num < 0))) ∧ w'.cell? ⟨wr.heap.size, 2, none⟩ = some (.slice rA (dg rq0.num.natAbs).length rc) ∧ w'.cell? ⟨wr.heap.size, 3, none⟩ = some (.slice rB (dg rq0.den).length rd)) (ds := []) #[false, false, false, false, false, false, false, false, false, false, false, false] (by kernel_rfl) rfl rfl ⟨HF.out.cellN 0 rfl 0 rfl, HF.out.cellN 0 rfl 1 rfl, HF.out.cellN 0 rfl 2 rfl, HF.out.cellN 0 rfl 3 rfl⟩ (fun hHeld => ?_)
      generalize World.drew _ = W at *
      refine pu_ (v := ?_) (a' := ?_) 0 (some 18) rfl rfl ?_ ?_ ?_
      rotate_left; · intro w'; go_simp; with_reducible rfl
      rotate_left
      · simp only [Act.put, sa_, sb_, sc_]
        rfl
      refine pu_ (v := ?_) (a' := ?_) 1 (some 19) rfl rfl ?_ ?_ ?_
      rotate_left; · intro w'; go_simp; with_reducible rfl
      rotate_left
      · simp only [Act.put, sa_, sb_, sc_]
        rfl
      refine pu_ (v := ?_) (a' := ?_) 5 (some 23) rfl rfl ?_ ?_ ?_
      rotate_left; · intro w'; go_simp; with_reducible rfl
      rotate_left
      · simp only [Act.put, sa_, sb_, sc_]
        rfl
      refine tk_ (v := ?_) (a' := ?_) 2 (some 20) rfl rfl ?_ hHeld ?_ ?_
      rotate_left
      · rintro w' ⟨s0, s1, s2, s3⟩; go_simp; with_reducible rfl
      rotate_left
      · simp only [Act.put, sa_, sb_, sc_]
        rfl
      refine tk_ (v := ?_) (a' := ?_) 6 (some 24) rfl rfl ?_ hHeld ?_ ?_
      rotate_left
      · rintro w' ⟨s0, s1, s2, s3⟩; go_simp; with_reducible rfl
      rotate_left
      · simp only [Act.put, sa_, sb_, sc_]
        rfl
      refine on_ 3 (N := (some 21)) rfl rfl (fun K hK => ?_)
      refine goes_ Tryz.func60 (by kernel_rfl) rfl #[.agg #[.bool (decide (rq0.num < 0)), .slice rA (dg rq0.num.natAbs).length rc, .slice rB (dg rq0.den).length rd]] (by rfl) rfl rfl (by (try simp only [List.map_toArray, List.map_cons, List.map_nil]); first | done | rfl) ?_
      refine (hR.out W hA.out).mono ?_
      rintro e W1 ⟨rfl, q1⟩
      refine ⟨_, rfl, ?_⟩
      replace HF := Lib.hid (HF.out.below q1)
      replace HI := Lib.hid (HI.out.below q1)
      clear q1 hA
      refine hK.out _ _ ⟨HF.out.cellN 0 rfl 0 rfl, HF.out.cellN 0 rfl 1 rfl, HF.out.cellN 0 rfl 2 rfl, HF.out.cellN 0 rfl 3 rfl⟩ (fun hHeld => ?_)
      clear hK K
      refine norm_ (a' := ?_) ?_ ?_
      rotate_left
      · show Act.put _ (some 21) _ = _
        simp only [Act.put, sa_, sb_, sc_]
        rfl
      refine pu_ (v := ?_) (a' := ?_) 4 (some 22) rfl rfl ?_ ?_ ?_
      rotate_left; · intro w'; go_simp; first | with_reducible rfl | rw [if_neg (by omega)]
      rotate_left
      · simp only [Act.put, sa_, sb_, sc_]
        rfl
      refine on_ 7 (N := (some 25)) rfl rfl (fun K hK => ?_)
      refine goes_ Tryz.func62 (by kernel_rfl) rfl #[.int .i64 rv0] (by rfl) rfl rfl (by (try simp only [List.map_toArray, List.map_cons, List.map_nil]); first | done | rfl) ?_
      refine (hO.out W1).mono ?_
      rintro e W2 ⟨A5, c5, rfl, q1, q2, q3⟩
      refine ⟨_, rfl, ?_⟩
      replace HF := Lib.hid (HF.out.below q3)
      replace HI := Lib.hid (HI.out.below q3)
      have H5 := Lib.hid (In.dg q2 q1)
      clear q1 q2 q3
      refine hK.out _ _ ⟨HF.out.cellN 0 rfl 0 rfl, HF.out.cellN 0 rfl 1 rfl, HF.out.cellN 0 rfl 2 rfl, HF.out.cellN 0 rfl 3 rfl⟩ (fun hHeld => ?_)
      clear hK K
      refine norm_ (a' := ?_) ?_ ?_
      rotate_left
      · show Act.put _ (some 25) _ = _
        simp only [Act.put, sa_, sb_, sc_]
        rfl
      refine on_ 8 (N := (some 26)) rfl rfl (fun K hK => ?_)
      refine goes_ Tryz.func61 (by kernel_rfl) rfl #[.agg #[.bool (decide (rv0 < 0)), .slice A5 (dg rv0.natAbs).length c5]] (by rfl) rfl rfl (by (try simp only [List.map_toArray, List.map_cons, List.map_nil]); first | done | rfl) ?_
      refine (hT.out W2 A5 c5 H5.out).mono ?_
      rintro e W3 ⟨rfl, q1⟩
      refine ⟨_, rfl, ?_⟩
      replace HF := Lib.hid (HF.out.below q1)
      replace HI := Lib.hid (HI.out.below q1)
      clear q1 H5
      refine hK.out _ _ ⟨HF.out.cellN 0 rfl 0 rfl, HF.out.cellN 0 rfl 1 rfl, HF.out.cellN 0 rfl 2 rfl, HF.out.cellN 0 rfl 3 rfl⟩ (fun hHeld => ?_)
      clear hK K
      refine norm_ (a' := ?_) ?_ ?_
      rotate_left
      · show Act.put _ (some 26) _ = _
        simp only [Act.put, sa_, sb_, sc_]
        rfl
      refine pu_ (v := ?_) (a' := ?_) 9 (some 27) rfl rfl ?_ ?_ ?_
      rotate_left; · intro w'; go_simp; first | with_reducible rfl | rw [if_neg (by omega)]
      rotate_left
      · simp only [Act.put, sa_, sb_, sc_]
        rfl
      refine pu_ (v := ?_) (a' := ?_) 10 (some 28) rfl rfl ?_ ?_ ?_
      rotate_left; · intro w'; go_simp; first | with_reducible rfl | rw [if_neg (by omega)]
      rotate_left
      · simp only [Act.put, sa_, sb_, sc_]
        rfl
      refine pu_ (v := ?_) (a' := ?_) 11 (some 3) rfl rfl ?_ ?_ ?_
      rotate_left; · intro w'; go_simp; with_reducible rfl
      rotate_left
      · simp only [Act.put, sa_, sb_, sc_]
        rfl
      refine done_ (by kernel_rfl) ?_
      go_wp2
      go_roundg (l.length - (i + 1))
      case measure => omega
      case rel => exact ⟨i + 1, _, by omega, by go_num, congrArg Value.string HS.out, HE, HF.out.tail, HI⟩
  · have hltz : ¬ (i : Int) < (l.length : Int) := by omega
    have hil : i = l.length := by omega
    have HP2 := Lib.hid (show P = joinC 43 (l.map tt) by rw [HP.out, hil, pre_all])
    clear HP
    by_cases hl0 : l = []
    · have hP0 : P = [] := by rw [HP2.out, hl0]; rfl
      subst hP0
      have HR := Lib.hid (show (⟨#[48]⟩ : ByteArray) = ⟨(tf l).toArray⟩ by rw [hl0]; rfl)
      clear HP2 hl0
      go_wp2
      go_ret
      rw [← HR.out]
      exact ⟨rfl, HF.out.bel⟩
    · have hne : P ≠ [] := by
       rw [HP2.out]
       exact joinC_ne (by simpa using hl0) fun x hx => by obtain ⟨m, _, rfl⟩ := List.mem_map.1 hx; exact tt_ne m
      have HR := Lib.hid (show P = tf l by rw [HP2.out]; unfold tf; rw [if_neg hl0])
      have hem : P.isEmpty = false := by simpa using hne
      have hem2 : (P == []) = false := by simpa using hne
      clear HP2 hl0
      go_wp2
      go_ret
      rw [← HR.out]
      exact ⟨rfl, HF.out.bel⟩
end Go.Proofs.YtidgpkccjcddgaaGreatDoor.F
