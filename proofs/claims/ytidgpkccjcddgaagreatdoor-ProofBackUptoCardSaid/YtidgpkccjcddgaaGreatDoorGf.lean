/- The walks of the reference's layer 1, first part: Norm, at, Cmp, Of. Conditions: the limbs are limbs, lengths at most 2^41. -/
import Derived.Test.YtidgpkccjcddgaaGreatDoorGe
set_option linter.unusedVariables false
set_option linter.unusedSimpArgs false
namespace Go.Proofs.YtidgpkccjcddgaaGreatDoor.F
open Go.RowKit Go.Shelf Go.Proofs.YtidgpkccjcddgaaGreatDoorW.PrintLast
def ToldF (w : World) (n : Int) (e : Ending) (w' : World) : Prop :=
 ∃ A c, e = .returned (.slice A (dg n.toNat).length c) ∧ (dg n.toNat).length ≤ c ∧ Rn w' A (dg n.toNat) ∧ Below w.heap.size w w' ∧ ∀ ad, A = some ad → w.heap.size ≤ ad.block
theorem ToldF.told {w : World} {n : Int} {e : Ending} {w' : World} (h : ToldF w n e w') : Told w n e w' := by
 obtain ⟨A, c, h1, h2, h3, h4, _⟩ := h
 exact ⟨A, c, h1, h2, h3, h4⟩
set_option maxHeartbeats 2000000 in
theorem r1_NormF (A : Option Addr) (c : Nat) (xs : List Int) (w : World) (h : In w A c xs) (hm : xs.length ≤ 2199023255552) :
 Calls Tryz.prog 133 #[.slice A xs.length c] w fun e w' => ToldF w (V xs) e w' := by
 have hc := h.cap
 have HX := Lib.hid h.row
 have HL := Lib.hid h.lim
 clear h
 unfold ToldF
 go_enter Tryz.func133, Tryz.ntmps133
 go_wp2
 go_loopg [3] xs.length (fun gg s3 wr => ∃ k : Nat, k ≤ xs.length ∧ k ≤ gg ∧ s3 = .int .i64 k ∧ Hid (Below w.heap.size w wr) ∧ Hid (∀ i (hi : i < xs.length), k ≤ i → xs[i] = 0))
 case atStart => exact ⟨xs.length, by omega, by omega, rfl, Below.refl _ w, fun i hi hk => by omega⟩
 case round =>
  obtain ⟨k, hk, hg, rfl, BW, A1⟩ := hrel
  by_cases h0 : 0 < k
  · obtain ⟨j, rfl⟩ : ∃ j, k = j + 1 := ⟨k - 1, by omega⟩
    obtain ⟨ad, rfl, hcell⟩ := Knd.at_int HX.out j (by omega)
    have hcell' := cell_below BW.out hcell
    clear hcell
    by_cases hz : xs[j] = 0
    · have HZ := Lib.hid hz
      rw [hz] at hcell'
      clear hz
      go_wp2
      go_roundg j
      case measure => omega
      case rel =>
       refine ⟨j, by omega, by omega, by go_num, by first | exact BW | exact below_drewN BW _, (show Hid _ from fun i hi hj => ?_)⟩
       by_cases e : i = j
       · subst e; exact HZ.out
       · exact A1.out i hi (by omega)
    · have HT := Lib.hid (take_dg HL.out hk A1.out (fun _ => hz)).symm
      have HU := Lib.hid (HX.out.take (j + 1))
      have hln : (dg (V xs).toNat).length = j + 1 := by rw [HT.out, List.length_take]; omega
      have hul : (xs.take (j + 1)).length = j + 1 := by rw [List.length_take]; omega
      have hz' : (xs[j] == 0) = false := by simpa using hz
      clear hz HX A1
      generalize xs[j] = y at hcell' hz'
      generalize xs.take (j + 1) = us at *
      have hln' := Lib.hid (hln.trans hul.symm)
      have u1 : us.length ≤ j + 1 := by omega
      have u2 : j + 1 ≤ us.length := by omega
      clear hln hul
      have hmk := fun W => run_makeL (P := Tryz.prog) 39 133 Tryz.underlying39 info96 ((j : Int) + 1) us.length (by omega) (by omega) W
      go_wp2
      clear hmk
      obtain ⟨w0, rfl⟩ : ∃ w0, w0 = wr := ⟨wr, rfl⟩
      go_loopg [5] us.length (fun gg s5 w2 => ∃ (i : Nat) (cs : List Int), i ≤ us.length ∧ us.length - i ≤ gg ∧ s5 = .int .i64 i ∧ cs.length ≤ us.length ∧ us.length ≤ cs.length ∧ Hid (OwnN w2 w0.heap.size cs) ∧ Hid (Below w.heap.size w w2) ∧ Hid (∀ m (h1 : m < cs.length) (h2 : m < us.length), m < i → cs[m] = us[m]))
      case atStart => exact ⟨0, List.replicate us.length 0, Nat.zero_le _, by omega, rfl, by simp, by simp, own_zeros _ _ _, BW.out.alloc BW.out.size _, fun m h1 h2 hm => by omega⟩
      case round =>
       obtain ⟨i, cs, hi, hg2, rfl, hl1, hl2, HO, HB, HE⟩ := hrel
       by_cases hlt : i < us.length
       · have hltz : (i : Int) < ((j : Int) + 1) := by omega
         obtain ⟨ad2, hae, hcell⟩ := Knd.at_int HU.out i hlt
         obtain rfl := Option.some.inj hae
         have hce := cell_below HB.out hcell
         have c3 := OwnN.cell HO.out i (by omega)
         have c4 := Own.frozen HO.out i
         have HS : Hid (∀ m (h1 : m < (cs.set i us[i]).length) (h2 : m < us.length), m < i + 1 → (cs.set i us[i])[m] = us[m]) := fun m h1 h2 hm => by
          by_cases e : m = i
          · subst e; simp
          · rw [List.getElem_set_ne (by omega)]; exact HE.out m (by simpa using h1) h2 (by omega)
         clear HE hcell
         generalize us[i] = x at *
         generalize cs[i] = z at c3
         go_wp2
         go_roundg (us.length - (i + 1))
         case measure => omega
         case rel => exact ⟨i + 1, cs.set i x, by omega, by omega, by go_num, by simpa using hl1, by simpa using hl2, HO.out.set _ _, HB.out.setCell BW.out.size _, HS⟩
       · have hltz : ¬ (i : Int) < ((j : Int) + 1) := by omega
         have heq : Hid (cs = us) := by
          show _ = _
          exact List.ext_getElem (by omega) fun m h1 h2 => HE.out m h1 h2 (by omega)
         go_wp2
         go_ret
         rw [heq.out] at HO
         rw [hln'.out, HT.out]
         exact ⟨some ⟨w0.heap.size, 0, none⟩, us.length, rfl, Nat.le_refl _, OwnN.row HO.out, HB.out, fun ad9 h9 => by obtain rfl := Option.some.inj h9; exact BW.out.size⟩
  · obtain rfl : k = 0 := by omega
    have HT := Lib.hid (take_dg HL.out hk A1.out (fun h => absurd h (Nat.lt_irrefl 0))).symm
    have HU := Lib.hid (HX.out.take 0)
    have hln : (dg (V xs).toNat).length = 0 := by rw [HT.out]; rfl
    have hul : (xs.take 0).length = 0 := rfl
    clear HX A1
    generalize xs.take 0 = us at *
    have hln' := Lib.hid (hln.trans hul.symm)
    have u1 : us.length ≤ 0 := by omega
    clear hln hul
    have hmk := fun W => run_makeL (P := Tryz.prog) 39 133 Tryz.underlying39 info96 (0 : Int) us.length (by omega) (by omega) W
    go_wp2
    clear hmk
    obtain ⟨w0, rfl⟩ : ∃ w0, w0 = wr := ⟨wr, rfl⟩
    go_loopg [5] us.length (fun gg s5 w2 => ∃ (i : Nat) (cs : List Int), i ≤ us.length ∧ us.length - i ≤ gg ∧ s5 = .int .i64 i ∧ cs.length ≤ us.length ∧ us.length ≤ cs.length ∧ Hid (OwnN w2 w0.heap.size cs) ∧ Hid (Below w.heap.size w w2) ∧ Hid (∀ m (h1 : m < cs.length) (h2 : m < us.length), m < i → cs[m] = us[m]))
    case atStart => exact ⟨0, List.replicate us.length 0, Nat.zero_le _, by omega, rfl, by simp, by simp, own_zeros _ _ _, BW.out.alloc BW.out.size _, fun m h1 h2 hm => by omega⟩
    case round =>
     obtain ⟨i, cs, hi, hg2, rfl, hl1, hl2, HO, HB, HE⟩ := hrel
     by_cases hlt : i < us.length
     · exact absurd hlt (by omega)
     · have hltz : ¬ (i : Int) < (0 : Int) := by omega
       have heq : Hid (cs = us) := by
        show _ = _
        exact List.ext_getElem (by omega) fun m h1 h2 => HE.out m h1 h2 (by omega)
       go_wp2
       go_ret
       rw [heq.out] at HO
       rw [hln'.out, HT.out]
       exact ⟨some ⟨w0.heap.size, 0, none⟩, us.length, rfl, Nat.le_refl _, OwnN.row HO.out, HB.out, fun ad9 h9 => by obtain rfl := Option.some.inj h9; exact BW.out.size⟩
theorem r1_Norm (A : Option Addr) (c : Nat) (xs : List Int) (w : World) (h : In w A c xs) (hm : xs.length ≤ 2199023255552) :
 Calls Tryz.prog 133 #[.slice A xs.length c] w fun e w' => Told w (V xs) e w' := (r1_NormF A c xs w h hm).mono fun _ _ hh => hh.told
set_option maxHeartbeats 1000000 in
theorem r1_at (A : Option Addr) (c : Nat) (xs : List Int) (i : Nat) (w : World) (h : In w A c xs) :
 Calls Tryz.prog 248 #[.slice A xs.length c, .int .i64 i] w fun e w' => e = .returned (.int .u64 (xs.getD i 0)) ∧ w' = w := by
 have hc := h.cap
 by_cases hlt : i < xs.length
 · obtain ⟨ad, rfl, hcell⟩ := Knd.at_int h.row i hlt
   have hb := h.lim.get i hlt
   have e1 : xs.getD i 0 = xs[i] := by simp [List.getD, List.getElem?_eq_getElem hlt]
   rw [e1]
   clear h e1
   generalize xs[i] = x at *
   have hltz : ¬ (xs.length : Int) ≤ (i : Int) := by omega
   have hw : IntKind.u64.wrap x = x := u64w (by omega) (by omega)
   go_enter Tryz.func248, Tryz.ntmps248
   go_wp2
   go_ret
   exact ⟨rfl, rfl⟩
 · have e1 : xs.getD i 0 = 0 := by simp [List.getD, List.getElem?_eq_none (show xs.length ≤ i by omega)]
   rw [e1]
   clear h e1
   have hltz : (xs.length : Int) ≤ (i : Int) := by omega
   go_enter Tryz.func248, Tryz.ntmps248
   go_wp2
   go_ret
   exact ⟨rfl, rfl⟩
theorem V_take_lt {xs : List Int} (h : Lim xs) (k : Nat) : 0 ≤ V (xs.take k) ∧ V (xs.take k) < Bp k := by
 have h1 := V_lt (h.take k)
 have h2 : Bp (xs.take k).length ≤ Bp k := Bp_le (by rw [List.length_take]; omega)
 exact ⟨V_nonneg (h.take k), by omega⟩
theorem sgn_top {a b x y p d : Int} (ha : 0 ≤ a ∧ a < p) (hb : 0 ≤ b ∧ b < p) (hd : d = (a + p * x) - (b + p * y)) : (x < y → sgn d = -1) ∧ (y < x → sgn d = 1) ∧ (x = y → d = a - b) := by
 refine ⟨fun h => ?_, fun h => ?_, fun h => ?_⟩
 · have h1 : p * (x + 1) ≤ p * y := Int.mul_le_mul_of_nonneg_left (by omega) (by omega)
   rw [Int.mul_add] at h1
   unfold sgn; rw [if_pos (by omega)]
 · have h1 : p * (y + 1) ≤ p * x := Int.mul_le_mul_of_nonneg_left (by omega) (by omega)
   rw [Int.mul_add] at h1
   unfold sgn; rw [if_neg (by omega), if_pos (by omega)]
 · subst h; omega
set_option maxHeartbeats 2000000 in
theorem r1_Cmp (A : Option Addr) (c : Nat) (xs : List Int) (B : Option Addr) (d : Nat) (ys : List Int) (w : World) (h : In w A c xs) (hm : xs.length ≤ 2199023255552) (k : In w B d ys) (km : ys.length ≤ 2199023255552) :
 Calls Tryz.prog 211 #[.slice A xs.length c, .slice B ys.length d] w fun e w' => e = .returned (.int .i64 (sgn (V xs - V ys))) ∧ w' = w := by
 have HA := Lib.hid (fun (i : Nat) => r1_at A c xs i w h)
 have HB := Lib.hid (fun (i : Nat) => r1_at B d ys i w k)
 have L1 := Lib.hid h.lim
 have L2 := Lib.hid k.lim
 have hc := h.cap
 have kc := k.cap
 clear h k
 go_enter Tryz.func211, Tryz.ntmps211
 go_upto_if 12 with (fail)
 go_cut [5] (fun s5 wc => ∃ n : Nat, s5 = .int .i64 n ∧ xs.length ≤ n ∧ ys.length ≤ n ∧ n ≤ 2199023255552 ∧ Hid (wc = w))
 case first =>
  by_cases hlt : xs.length < ys.length
  · have hlt' : decide (xs.length < ys.length) = true := by simpa using hlt
    go_wp2
    go_meet
    case rel => exact ⟨ys.length, rfl, by omega, by omega, by omega, rfl⟩
  · have hlt' : decide (xs.length < ys.length) = false := by simpa using hlt
    go_wp2
    go_meet
    case rel => exact ⟨xs.length, rfl, by omega, by omega, by omega, rfl⟩
 case rest =>
  obtain ⟨n, rfl, hn1, hn2, hn3, HW⟩ := hcut
  have hw := HW.out
  subst hw
  clear HW
  go_wp2
  go_loopg [6] n (fun gg s6 wr => ∃ (k : Nat) (i : Int), i + 1 = k ∧ k ≤ n ∧ k ≤ gg ∧ s6 = .int .i64 i ∧ Hid (wr = wc) ∧ Hid (V xs - V ys = V (xs.take k) - V (ys.take k)))
  case atStart => exact ⟨n, (n : Int) - 1, by omega, by omega, by omega, by go_num, rfl, by show _ = _; rw [V_take_all hn1, V_take_all hn2]⟩
  case round =>
   obtain ⟨k, i, hi, hk, hg, rfl, HW, HE⟩ := hrel
   have hw := HW.out
   subst hw
   clear HW
   by_cases h0 : k = 0
   · subst h0
     have hiz : i = -1 := by omega
     subst hiz
     have hz : Hid (V xs - V ys = 0) := by show _ = _; rw [HE.out]; simp [V]
     go_wp2
     go_ret
     rw [hz.out]
     exact ⟨rfl, rfl⟩
   · obtain ⟨j, rfl⟩ : ∃ j, k = j + 1 := ⟨k - 1, by omega⟩
     obtain rfl : i = (j : Int) := by omega
     have hst := Lib.hid (sgn_top (d := V xs - V ys) (x := xs.getD j 0) (y := ys.getD j 0) (V_take_lt L1.out j) (V_take_lt L2.out j) (by rw [HE.out, V_take_getD, V_take_getD]))
     have b1 := L1.out.getD j
     have b2 := L2.out.getD j
     have HAj := Lib.hid (HA.out j)
     have HBj := Lib.hid (HB.out j)
     clear HE hi
     generalize xs.getD j 0 = x at *
     generalize ys.getD j 0 = y at *
     go_wp2_with fail
     refine HAj.out.mono ?_
     rintro e w' ⟨rfl, rfl⟩
     go_wp2_with fail
     refine HBj.out.mono ?_
     rintro e w' ⟨rfl, rfl⟩
     rcases Int.lt_trichotomy x y with hxy | hxy | hxy
     · have e9 := hst.out.1 hxy
       go_wp2
       go_ret
       rw [e9]
       exact ⟨rfl, rfl⟩
     · subst hxy
       have e9 := Lib.hid (hst.out.2.2 rfl)
       go_wp2_with fail
       refine HAj.out.mono ?_
       rintro e w' ⟨rfl, rfl⟩
       go_wp2_with fail
       refine HBj.out.mono ?_
       rintro e w' ⟨rfl, rfl⟩
       go_wp2
       go_roundg j
       case measure => omega
       case rel => exact ⟨j, (j : Int) - 1, by omega, by omega, by omega, by go_num, rfl, e9⟩
     · have e9 := hst.out.2.1 hxy
       have hnl : ¬ x < y := by omega
       go_wp2_with fail
       refine HAj.out.mono ?_
       rintro e w' ⟨rfl, rfl⟩
       go_wp2_with fail
       refine HBj.out.mono ?_
       rintro e w' ⟨rfl, rfl⟩
       go_wp2
       go_ret
       rw [e9]
       exact ⟨rfl, rfl⟩
set_option maxHeartbeats 2000000 in
theorem r1_SubF (A : Option Addr) (c : Nat) (xs : List Int) (B : Option Addr) (d : Nat) (ys : List Int) (w : World) (h : In w A c xs) (hm : xs.length ≤ 1099511627776) (k : In w B d ys) (km : ys.length ≤ 1099511627776) (hle : V ys ≤ V xs) :
 Calls Tryz.prog 214 #[.slice A xs.length c, .slice B ys.length d] w fun e w' =>
  ∃ A' c', e = .returned (.tuple #[.slice A' (dg (V xs - V ys).toNat).length c', .int .i64 0]) ∧ (dg (V xs - V ys).toNat).length ≤ c' ∧ Rn w' A' (dg (V xs - V ys).toNat) ∧ Below w.heap.size w w' ∧ ∀ ad, A' = some ad → w.heap.size ≤ ad.block := by
 have HC := Lib.hid (r1_Cmp A c xs B d ys w h (by omega) k (by omega))
 have HA := Lib.hid (fun (W : World) (hb : Below w.heap.size w W) (i : Nat) => r1_at A c xs i W (h.below hb))
 have HB := Lib.hid (fun (W : World) (hb : Below w.heap.size w W) (i : Nat) => r1_at B d ys i W (k.below hb))
 have L1 := Lib.hid h.lim
 have L2 := Lib.hid k.lim
 have hc := h.cap
 have kc := k.cap
 clear h k
 have hsg : 0 ≤ sgn (V xs - V ys) := by unfold sgn; repeat' split <;> omega
 generalize sgn (V xs - V ys) = sg at *
 have hmk := fun W => run_makeL (P := Tryz.prog) 39 133 Tryz.underlying39 info96 (xs.length : Int) xs.length (by omega) (by omega) W
 go_enter Tryz.func214, Tryz.ntmps214
 go_wp2_with fail
 refine HC.out.mono ?_
 clear HC
 rintro e w' ⟨rfl, rfl⟩
 go_wp2
 clear hmk
 go_loopg [7, 8] xs.length (fun gg s7 s8 wr => ∃ (i : Nat) (cy : Int) (cs : List Int), i ≤ xs.length ∧ xs.length - i ≤ gg ∧ s8 = .int .i64 i ∧ s7 = .int .u64 cy ∧ 0 ≤ cy ∧ cy ≤ 1 ∧ cs.length ≤ xs.length ∧ xs.length ≤ cs.length ∧
  Hid (OwnN wr w'.heap.size cs) ∧ Hid (Below w'.heap.size w' wr) ∧ Hid (Lim cs) ∧ Hid (V (cs.take i) - Bp i * cy = V (xs.take i) - V (ys.take i)))
 case atStart => exact ⟨0, 0, List.replicate xs.length 0, by omega, by omega, rfl, rfl, by omega, by omega, by simp, by simp, own_zeros _ _ _, (Below.refl _ _).alloc (Nat.le_refl _) _, Lim.zeros _, by show _ = _; simp [V]⟩
 case round =>
  obtain ⟨i, cy, cs, hi, hg, rfl, rfl, hcy0, hcy1, hl1, hl2, HO, HD, HL, HE⟩ := hrel
  by_cases hlt : i < xs.length
  · have hltz : (i : Int) < (xs.length : Int) := by omega
    have b1 := L1.out.getD i
    have b2 := L2.out.getD i
    have HV := Lib.hid (V_take_getD xs i)
    have KV := Lib.hid (V_take_getD ys i)
    have c3 := OwnN.cell HO.out i (by omega)
    have c4 := Own.frozen HO.out i
    have hst := Lib.hid (fun (y : Int) => V_take_set_succ (xs := cs) (k := i) (by omega) y)
    have HAi := Lib.hid (HA.out wr HD.out i)
    have HBi := Lib.hid (HB.out wr HD.out i)
    generalize xs.getD i 0 = x at *
    generalize ys.getD i 0 = y at *
    generalize cs[i] = z at c3
    obtain ⟨u, hu⟩ : ∃ u, u = IntKind.u64.wrap (x - y) := ⟨_, rfl⟩
    obtain ⟨v, hv⟩ : ∃ v, v = IntKind.u64.wrap (u - cy) := ⟨_, rfl⟩
    have e1 := hu.symm
    have e2 := hv.symm
    have e3 : Hid (v % 4294967296 = (x - y - cy) % 4294967296 ∧ v / 9223372036854775808 = if x - y - cy < 0 then 1 else 0) := by
     show _ ∧ _
     rw [IntKind.wrap_u64] at hu hv
     constructor
     · omega
     · split <;> omega
    have vb : 0 ≤ v / 9223372036854775808 ∧ v / 9223372036854775808 ≤ 1 := by rw [e3.out.2]; split <;> omega
    have hnew : Hid (V ((cs.set i (v % 4294967296)).take (i + 1)) - Bp (i + 1) * (v / 9223372036854775808) = V (xs.take (i + 1)) - V (ys.take (i + 1))) := by
     show _ = _
     have hx : x - y - cy = (x - y - cy) % 4294967296 - 4294967296 * (if x - y - cy < 0 then 1 else 0) := by split <;> omega
     rw [hst.out, HV.out, KV.out, e3.out.1, e3.out.2]
     exact sub_step hx HE.out
    clear hst HV KV HE hu hv e3
    go_wp2_with fail
    refine HAi.out.mono ?_
    clear HAi
    rintro e w'' ⟨rfl, rfl⟩
    go_wp2_with fail
    refine HBi.out.mono ?_
    clear HBi
    rintro e w'' ⟨rfl, rfl⟩
    go_wp2
    go_roundg (xs.length - (i + 1))
    case measure => omega
    case rel =>
     exact ⟨i + 1, v / 9223372036854775808, cs.set i (v % 4294967296), by omega, by omega, by go_num, rfl, by omega, by omega, by simpa using hl1, by simpa using hl2, OwnN.set HO.out _ _, HD.out.setCell (Nat.le_refl _) _, HL.out.set _ (by omega) (by omega), hnew⟩
  · have hltz : ¬ (i : Int) < (xs.length : Int) := by omega
    have hi2 : i = xs.length := by omega
    have hV : Hid (V cs = V xs - V ys) := by
     show _ = _
     have h5 := HE.out
     have h1 := V_lt L1.out
     have h2 := V_lt HL.out
     have h6 := V_nonneg HL.out
     have hyl := V_split ys i
     rw [hi2] at h5 hyl
     have hp := Bp_pos xs.length
     have hy0 : V (ys.take xs.length) = V ys := by
      by_cases hyy : xs.length ≤ ys.length
      · have h9 := hyl hyy
        have h7 := V_nonneg (L2.out.drop xs.length)
        have h8 := V_nonneg (L2.out.take xs.length)
        rcases Int.lt_or_eq_of_le h7 with h10 | h10
        · have h11 : Bp xs.length * 1 ≤ Bp xs.length * V (ys.drop xs.length) := Int.mul_le_mul_of_nonneg_left (by omega) (by omega)
          omega
        · rw [← h10] at h9; omega
      · rw [V_take_all (by omega)]
     rw [hy0, V_take_all (by omega), V_take_all (Nat.le_refl _)] at h5
     have hll : cs.length = xs.length := by omega
     rw [hll] at h2
     have hcy : cy = 0 ∨ cy = 1 := by omega
     rcases hcy with rfl | rfl
     · omega
     · omega
    have hN := Lib.hid (r1_NormF (some ⟨w'.heap.size, 0, none⟩) xs.length cs wr ⟨OwnN.row HO.out, HL.out, hl1⟩ (by omega))
    rw [hV.out, show cs.length = xs.length by omega] at hN
    clear HE HL HO hV hi2
    go_wp2_with fail
    refine hN.out.mono ?_
    rintro e w'' ⟨A', c', rfl, g1, g2, g3, g4⟩
    have G4 := Lib.hid (fun ad (h9 : A' = some ad) => Nat.le_trans HD.out.size (g4 ad h9))
    clear g4
    have G2 := Lib.hid g2
    have G3 := Lib.hid (HD.out.trans (g3.mono HD.out.size))
    clear g2 g3
    go_wp2
    go_ret2
    exact ⟨A', c', rfl, g1, G2.out, G3.out, G4.out⟩
theorem r1_Sub (A : Option Addr) (c : Nat) (xs : List Int) (B : Option Addr) (d : Nat) (ys : List Int) (w : World) (h : In w A c xs) (hm : xs.length ≤ 1099511627776) (k : In w B d ys) (km : ys.length ≤ 1099511627776) (hle : V ys ≤ V xs) :
 Calls Tryz.prog 214 #[.slice A xs.length c, .slice B ys.length d] w fun e w' =>
  ∃ A' c', e = .returned (.tuple #[.slice A' (dg (V xs - V ys).toNat).length c', .int .i64 0]) ∧ (dg (V xs - V ys).toNat).length ≤ c' ∧ Rn w' A' (dg (V xs - V ys).toNat) ∧ Below w.heap.size w w' :=
 (r1_SubF A c xs B d ys w h hm k km hle).mono fun _ _ ⟨A', c', h1, h2, h3, h4, _⟩ => ⟨A', c', h1, h2, h3, h4⟩
theorem bits_or_comm (k : IntKind) (a b : Int) : bits .or k a b = bits .or k b a := by
 unfold bits
 show k.wrap ((BitVec.ofInt k.bits a ||| BitVec.ofInt k.bits b).toNat : Int) = k.wrap ((BitVec.ofInt k.bits b ||| BitVec.ofInt k.bits a).toNat : Int)
 rw [BitVec.or_comm]
set_option maxHeartbeats 2000000 in
theorem r1_twiceF (A : Option Addr) (c : Nat) (xs : List Int) (b : Bool) (w : World) (h : In w A c xs) (hm : xs.length ≤ 1099511627776) :
 Calls Tryz.prog 215 #[.slice A xs.length c, .bool b] w fun e w' => ToldF w (2 * V xs + (if b then 1 else 0)) e w' := by
 have hc := h.cap
 have H1 := Lib.hid h.row
 have L1 := Lib.hid h.lim
 clear h
 generalize hS : 2 * V xs + (if b then 1 else 0) = S
 have HS := Lib.hid hS
 clear hS
 have hmk := fun W => run_makeL (P := Tryz.prog) 39 133 Tryz.underlying39 info96 ((xs.length : Int) + 1) (xs.length + 1) (by omega) (by omega) W
 go_enter Tryz.func215, Tryz.ntmps215
 go_upto_if 12 with (fail)
 go_cut [6] (fun s6 wc => s6 = .int .u32 (if b then 1 else 0) ∧ Hid (OwnN wc w.heap.size (List.replicate (xs.length + 1) 0)) ∧ Hid (Below w.heap.size w wc))
 case first =>
  cases b with
  | true =>
   go_wp2
   go_meet
   case rel => exact ⟨rfl, own_zeros _ _ _, (Below.refl _ _).alloc (Nat.le_refl _) _⟩
  | false =>
   go_wp2
   go_meet
   case rel => exact ⟨rfl, own_zeros _ _ _, (Below.refl _ _).alloc (Nat.le_refl _) _⟩
 case rest =>
  obtain ⟨rfl, HO0, HB0⟩ := hcut
  clear hmk
  obtain ⟨f, hf⟩ : ∃ f : Int, f = if b then 1 else 0 := ⟨_, rfl⟩
  have hfb : 0 ≤ f ∧ f ≤ 1 := by rw [hf]; split <;> omega
  rw [← hf] at HS ⊢
  clear hf
  go_wp2
  go_loopg [6, 7] xs.length (fun gg s6 s7 wr => ∃ (i : Nat) (cy : Int) (cs : List Int), i ≤ xs.length ∧ xs.length - i ≤ gg ∧ s7 = .int .i64 i ∧ s6 = .int .u32 cy ∧ 0 ≤ cy ∧ cy ≤ 1 ∧ cs.length ≤ xs.length + 1 ∧ xs.length + 1 ≤ cs.length ∧
   Hid (OwnN wr w.heap.size cs) ∧ Hid (Below w.heap.size w wr) ∧ Hid (Lim cs) ∧ Hid (V (cs.take i) + Bp i * cy = 2 * V (xs.take i) + f))
  case atStart => exact ⟨0, f, List.replicate (xs.length + 1) 0, by omega, by omega, rfl, rfl, by omega, by omega, by simp, by simp, HO0, HB0, Lim.zeros _, by show _ = _; simp [V, Bp_zero]⟩
  case round =>
   obtain ⟨i, cy, cs, hi, hg, rfl, rfl, hcy0, hcy1, hl1, hl2, HO, HD, HL, HE⟩ := hrel
   by_cases hlt : i < xs.length
   · have hltz : (i : Int) < (xs.length : Int) := by omega
     obtain ⟨ad, rfl, hcell⟩ := Knd.at_int H1.out i hlt
     have c1 := cell_below HD.out hcell
     have b1 := L1.out.get i hlt
     have HV := Lib.hid (V_take_succ hlt)
     have c3 := OwnN.cell HO.out i (by omega)
     have c4 := Own.frozen HO.out i
     have hst := Lib.hid (fun (y : Int) => V_take_set_succ (xs := cs) (k := i) (by omega) y)
     generalize xs[i] = x at *
     generalize cs[i] = z at c3
     have ho := or_low (z := cy) (x := x) (up := 1) (by omega) hcy0 (by show cy < 2; omega) b1
     rw [bits_or_comm, Int.pow_one] at ho
     obtain ⟨y, hy⟩ : ∃ y, y = cy + x * 2 % 4294967296 := ⟨_, rfl⟩
     rw [← hy] at ho
     have h1 := ho.1
     have h2 : 0 ≤ y ∧ y < 4294967296 := ⟨by omega, ho.2⟩
     have c2 := cell_below (HD.out.setCell (p := ⟨w.heap.size, i, none⟩) (Nat.le_refl _) (.int .u32 y)) hcell
     have hnew : Hid (V ((cs.set i y).take (i + 1)) + Bp (i + 1) * (x / 2147483648) = 2 * V (xs.take (i + 1)) + f) := by
      show _ = _
      have h3 : y + 4294967296 * (x / 2147483648) = 2 * x + cy := by omega
      have h4 := HE.out
      rw [hst.out, HV.out, Bp_succ]
      generalize Bp i = p at *
      generalize V (cs.take i) = C at *
      generalize V (xs.take i) = X at *
      have h5 : p * y + 4294967296 * p * (x / 2147483648) = p * (y + 4294967296 * (x / 2147483648)) := by grind
      have h6 : p * (2 * x + cy) = 2 * (p * x) + p * cy := by grind
      rw [h3, h6] at h5
      omega
     have h7 : 0 ≤ x / 2147483648 ∧ x / 2147483648 ≤ 1 := by omega
     clear hcell hst HV HE hy ho
     go_wp2
     go_roundg (xs.length - (i + 1))
     case measure => omega
     case rel =>
      exact ⟨i + 1, x / 2147483648, cs.set i y, by omega, by omega, by go_num, rfl, h7.1, h7.2, by simpa using hl1, by simpa using hl2, OwnN.set HO.out _ _, HD.out.setCell (Nat.le_refl _) _, HL.out.set _ h2.1 h2.2, hnew⟩
   · have hltz : ¬ (i : Int) < (xs.length : Int) := by omega
     have hkl : Hid (i = xs.length) := by show _ = _; omega
     have c3 := OwnN.cell HO.out xs.length (by omega)
     have c4 := Own.frozen HO.out xs.length
     generalize cs[xs.length] = z at c3
     have HO2 := Lib.hid (OwnN.set HO.out xs.length cy)
     have HL2 := Lib.hid (HL.out.set xs.length (y := cy) (by omega) (by omega))
     have HE2 : Hid (V (cs.set xs.length cy) = S) := by
      show _ = _
      have h1 := V_take_set_succ (xs := cs) (k := xs.length) (by omega) cy
      have h2 := HE.out
      rw [hkl.out] at h2
      rw [V_take_all (by simp; omega)] at h1
      rw [h1, h2, V_take_all (Nat.le_refl _)]
      exact HS.out
     have hlen : Hid ((cs.set xs.length cy).length = xs.length + 1) := by show _ = _; simp; omega
     generalize cs.set xs.length cy = rs at HO2 HL2 HE2 hlen
     have HB2 := Lib.hid (HD.out.setCell (p := ⟨w.heap.size, xs.length, none⟩) (Nat.le_refl _) (.int .u32 cy))
     have hN := Lib.hid (r1_NormF (some ⟨w.heap.size, 0, none⟩) (xs.length + 1) rs _ ⟨OwnN.row HO2.out, HL2.out, by rw [hlen.out]; exact Nat.le_refl _⟩ (by rw [hlen.out]; omega))
     rw [HE2.out, hlen.out] at hN
     clear HE HL HO
     go_wp2_with fail
     refine hN.out.mono ?_
     rintro e w' ⟨A', c', rfl, g1, g2, g3, g4⟩
     have G4 := Lib.hid (fun ad (h9 : A' = some ad) => Nat.le_trans HB2.out.size (g4 ad h9))
     clear g4
     have G2 := Lib.hid g2
     have G3 := Lib.hid (HB2.out.trans (g3.mono HB2.out.size))
     clear g2 g3
     go_wp2
     go_ret
     exact ⟨A', c', rfl, g1, G2.out, G3.out, G4.out⟩
theorem r1_twice (A : Option Addr) (c : Nat) (xs : List Int) (b : Bool) (w : World) (h : In w A c xs) (hm : xs.length ≤ 1099511627776) :
 Calls Tryz.prog 215 #[.slice A xs.length c, .bool b] w fun e w' => Told w (2 * V xs + (if b then 1 else 0)) e w' := (r1_twiceF A c xs b w h hm).mono fun _ _ hh => hh.told
theorem and_one {a : Int} (h0 : 0 ≤ a) (h1 : a < 4294967296) : bits .and .u32 a 1 = a % 2 := by
 obtain ⟨n, rfl⟩ := Int.eq_ofNat_of_zero_le h0
 unfold bits
 show IntKind.u32.wrap ((BitVec.ofInt 32 (n : Int) &&& BitVec.ofInt 32 1).toNat : Int) = _
 rw [BitVec.toNat_and, BitVec.toNat_ofInt, BitVec.toNat_ofInt]
 have e1 : ((n : Int) % ((2 ^ 32 : Nat) : Int)).toNat = n := by simp; omega
 have e2 : ((1 : Int) % ((2 ^ 32 : Nat) : Int)).toNat = 1 := by decide
 rw [e1, e2, Nat.and_one_is_mod, IntKind.wrap_u32]
 omega
theorem bit_limb {X T D x : Int} {j r : Nat} (hr : r < 32) (hT : 0 ≤ T ∧ T < Bp j) (hX : X = T + Bp j * (x + 4294967296 * D)) : X / 2 ^ (32 * j + r) % 2 = x / 2 ^ r % 2 := by
 have e1 : (2 : Int) ^ (32 * j + r) = Bp j * 2 ^ r := by
  rw [Int.pow_add, Int.pow_mul]; rfl
 rw [e1, ← Int.ediv_ediv_of_nonneg (Int.le_of_lt (Bp_pos j)), hX, Int.add_mul_ediv_left _ _ (by have := Bp_pos j; omega), Int.ediv_eq_zero_of_lt hT.1 hT.2, Int.zero_add]
 have e2 : (4294967296 : Int) = 2 ^ r * (2 * 2 ^ (31 - r)) := by
  have : (2 : Int) ^ r * (2 * 2 ^ (31 - r)) = 2 ^ (r + (1 + (31 - r))) := by rw [Int.pow_add, Int.pow_add]; rfl
  rw [this, show r + (1 + (31 - r)) = 32 by omega]; rfl
 have e3 : x + 4294967296 * D = x + 2 ^ r * (2 * (2 ^ (31 - r) * D)) := by rw [e2]; grind
 rw [e3, Int.add_mul_ediv_left _ _ (by have := pow2_pos r; omega)]
 generalize (2 : Int) ^ (31 - r) * D = z
 omega
set_option maxHeartbeats 2000000 in
theorem r1_Bit (A : Option Addr) (c : Nat) (xs : List Int) (i : Nat) (w : World) (h : In w A c xs) (hm : xs.length ≤ 1099511627776) (hi : i < 140737488355328) :
 Calls Tryz.prog 212 #[.slice A xs.length c, .int .i64 i] w fun e w' => e = .returned (.bool (decide (V xs / 2 ^ i % 2 = 1))) ∧ w' = w := by
 have hc := h.cap
 by_cases hlt : i / 32 < xs.length
 · obtain ⟨ad, rfl, hcell⟩ := Knd.at_int h.row (i / 32) hlt
   have hb := h.lim.get (i / 32) hlt
   have hx := Lib.hid (show decide (V xs / 2 ^ i % 2 = 1) = decide (xs[i / 32] / 2 ^ (i % 32) % 2 = 1) from by
    have h1 := V_split xs (i / 32) (by omega)
    rw [V_drop hlt] at h1
    have h2 := bit_limb (r := i % 32) (by omega) (V_take_lt h.lim (i / 32)) h1
    rw [show 32 * (i / 32) + i % 32 = i by omega] at h2
    rw [h2])
   clear h
   have q1 : (i : Int) / 32 = ((i / 32 : Nat) : Int) := by omega
   have q2 : (i : Int) % 32 = ((i % 32 : Nat) : Int) := by omega
   have q3 : i % 32 < 32 := by omega
   generalize i / 32 = j at *
   generalize i % 32 = r at *
   generalize xs[j] = x at *
   go_enter Tryz.func212, Tryz.ntmps212
   go_wp2
   go_ret
   have h1 := pow2_pos r
   have h2 : 0 ≤ x / 2 ^ r := Int.ediv_nonneg hb.1 (by omega)
   have h3 : x / 2 ^ r ≤ x := Int.ediv_le_self _ hb.1
   rw [and_one h2 (by omega), hx.out]
   exact ⟨ret_bool rfl, rfl⟩
 · have hx := Lib.hid (show decide (V xs / 2 ^ i % 2 = 1) = false from by
    have h1 := V_nonneg h.lim
    have h2 := V_lt h.lim
    have h3 : Bp xs.length ≤ 2 ^ i := by
     have h4 : (2 : Int) ^ i = Bp xs.length * 2 ^ (i - 32 * xs.length) := by
      rw [show Bp xs.length = (2 : Int) ^ (32 * xs.length) by rw [Int.pow_mul]; rfl, ← Int.pow_add]
      congr 1; omega
     have h5 := pow2_pos (i - 32 * xs.length)
     have h6 : Bp xs.length * 1 ≤ Bp xs.length * 2 ^ (i - 32 * xs.length) := Int.mul_le_mul_of_nonneg_left (by omega) (Int.le_of_lt (Bp_pos _))
     omega
    rw [Int.ediv_eq_zero_of_lt h1 (by omega)]
    rfl)
   clear h
   have q1 : (i : Int) / 32 = ((i / 32 : Nat) : Int) := by omega
   generalize i / 32 = j at *
   have q4 : ¬ (j : Int) < (xs.length : Int) := by omega
   go_enter Tryz.func212, Tryz.ntmps212
   go_wp2
   go_ret
   rw [hx.out]
   exact ⟨rfl, rfl⟩
theorem half_step {p X x h l : Int} (hx : x = 2 * h + l) : (X + 4294967296 * p * x) / 2 = X / 2 + p * (2147483648 * l) + 4294967296 * p * h := by
 have e : X + 4294967296 * p * x = X + 2 * (p * (2147483648 * l) + 4294967296 * p * h) := by subst hx; grind
 rw [e, Int.add_mul_ediv_left _ _ (by decide)]
 omega
theorem or_zero {y : Int} (h0 : 0 ≤ y) (h1 : y < 4294967296) : bits .or .u32 0 y = y := by
 rw [Go.u32_or 0 y (by omega) (by omega) h0 h1]
 simp
 omega
set_option maxHeartbeats 4000000 in
theorem r1_Half (A : Option Addr) (c : Nat) (xs : List Int) (w : World) (h : In w A c xs) (hm : xs.length ≤ 1099511627776) :
 Calls Tryz.prog 213 #[.slice A xs.length c, .int .i64 (-1)] w fun e w' =>
  ∃ A' c', e = .returned (.tuple #[.slice A' (dg (V xs / 2).toNat).length c', .int .i64 0]) ∧ (dg (V xs / 2).toNat).length ≤ c' ∧ Rn w' A' (dg (V xs / 2).toNat) ∧ Below w.heap.size w w' := by
 have hc := h.cap
 have hN := Lib.hid (r1_Norm A c xs w h (by omega))
 have hln : (dg (V xs).toNat).length = 0 ↔ V xs = 0 := by have := V_nonneg h.lim; rw [List.length_eq_zero_iff, dg_eq_nil]; omega
 have H1 := Lib.hid h.row
 have L1 := Lib.hid h.lim
 clear h
 unfold Told at hN
 generalize hS : V xs / 2 = S
 have HS := Lib.hid hS
 clear hS
 generalize (dg (V xs).toNat) = ds at *
 go_enter Tryz.func213, Tryz.ntmps213
 go_wp2_with fail
 refine hN.out.mono ?_
 clear hN
 rintro e w1 ⟨A1, c1, rfl, g1, g2, g3⟩
 have HB := Lib.hid g3
 clear g2 g3
 by_cases hz : ds.length = 0
 · obtain rfl : ds = [] := List.length_eq_zero_iff.1 hz
   have hS0 : S = 0 := by rw [← HS.out, hln.1 rfl]; rfl
   subst hS0
   clear hln HS
   go_wp2
   go_ret2
   rw [show dg (0 : Int).toNat = [] from dg_zero]
   exact ⟨_, _, rfl, Nat.le_refl _, Rn.nil _ _, HB.out.alloc HB.out.size _⟩
 · have hz' : ((ds.length : Int) == 0) = false := by simpa using hz
   have hmk := fun W => run_makeL (P := Tryz.prog) 39 133 Tryz.underlying39 info96 (xs.length : Int) xs.length (by omega) (by omega) W
   clear hln
   go_wp2
   clear hmk hz hz' g1
   go_loopg [10] xs.length (fun gg s10 wr => ∃ (i : Nat) (cs : List Int), i ≤ xs.length ∧ xs.length - i ≤ gg ∧ s10 = .int .i64 i ∧ cs.length ≤ xs.length ∧ xs.length ≤ cs.length ∧
    Hid (OwnN wr w1.heap.size cs) ∧ Hid (Below w.heap.size w wr) ∧ Hid (Lim cs) ∧ Hid (V cs = V (xs.take i) / 2) ∧ Hid (∀ j (hj : j < cs.length), (i ≤ j → cs[j] = 0) ∧ cs[j] < 2147483648 ∨ j + 1 < i))
   case atStart =>
    refine ⟨0, List.replicate xs.length 0, by omega, by omega, rfl, by simp, by simp, own_zeros _ _ _, HB.out.alloc HB.out.size _, Lim.zeros _, ?_, ?_⟩
    · show _ = _; rw [V_zeros]; simp [V]
    · exact fun j hj => .inl ⟨fun _ => by simp, by simp⟩
   case round =>
    obtain ⟨i, cs, hi, hg, rfl, hl1, hl2, HO, HD, HL, HE, HZ⟩ := hrel
    by_cases hlt : i < xs.length
    · have hltz : (i : Int) < (xs.length : Int) := by omega
      obtain ⟨ad, rfl, hcell⟩ := Knd.at_int H1.out i hlt
      have c1 := cell_below HD.out hcell
      have b1 := L1.out.get i hlt
      have HV := Lib.hid (V_take_succ hlt)
      generalize xs[i] = x at *
      clear hcell
      have hst := Lib.hid (fun (y : Int) => V_set (xs := cs) (i := i) (by omega) y)
      have hzi : cs[i]'(by omega) = 0 := by
       rcases HZ.out i (by omega) with h1 | h1
       · exact h1.1 (Nat.le_refl _)
       · omega
      have d3 := OwnN.cell HO.out i (by omega)
      have d4 := Own.frozen HO.out i
      rw [hzi] at d3
      obtain ⟨hh, hhe⟩ : ∃ hh, hh = x / 2 := ⟨_, rfl⟩
      have q6 : x * 2147483648 / 4294967296 = hh := by omega
      have q8 : bits .or .u32 0 hh = hh := or_zero (by omega) (by omega)
      have hhb : 0 ≤ hh ∧ hh < 2147483648 := by omega
      have HH := Lib.hid hhe
      clear hhe
      by_cases h0 : i = 0
      · have q1 : IntKind.i64.wrap ((i : Int) + -1) = -1 := by rw [i64w (by omega) (by omega)]; omega
        have q0 : (i : Int) = 0 := by omega
        have Q0 := Lib.hid h0
        have d3' := d3
        have d4' := d4
        rw [h0] at d3' d4'
        have q3 : (0 : Int) < (xs.length : Int) := by omega
        clear h0 q0 d3 d4
        go_wp2
        go_roundg (xs.length - (i + 1))
        case measure => omega
        case rel =>
         have hi0 := Q0.out
         subst hi0
         refine ⟨1, cs.set 0 hh, by omega, by omega, by go_num, by simpa using hl1, by simpa using hl2, OwnN.set HO.out _ _, HD.out.setCell HB.out.size _, HL.out.set _ hhb.1 (by omega), ?_, ?_⟩
         · show _ = _
           have e1 := hst.out hh
           have e2 := HE.out
           rw [hzi] at e1
           rw [e1, e2, HV.out, HH.out]
           simp only [List.take_zero, V, Bp_zero]
           omega
         · intro j hj
           by_cases hj0 : j = 0
           · subst hj0
             exact .inl ⟨fun h => absurd h (by omega), by simpa using hhb.2⟩
           · rw [List.getElem_set_ne (by omega)]
             rcases HZ.out j (by simpa using hj) with h1 | h1
             · exact .inl ⟨fun h => h1.1 (by omega), h1.2⟩
             · exact .inr (by omega)
      · obtain ⟨m, hm2⟩ : ∃ m, i = m + 1 := ⟨i - 1, by omega⟩
        have q1 : IntKind.i64.wrap ((i : Int) + -1) = (m : Int) := by rw [i64w (by omega) (by omega)]; omega
        have q2 : IntKind.i64.wrap ((m : Int) + 1) = (i : Int) := by rw [i64w (by omega) (by omega)]; omega
        have q3 : (m : Int) < (xs.length : Int) := by omega
        have q4 : m ≠ i := by omega
        have q5 : i ≠ m := by omega
        have c3 := OwnN.cell HO.out m (by omega)
        have c4 := Own.frozen HO.out m
        have hsm := Lib.hid (fun (y : Int) => V_set (xs := cs) (i := m) (by omega) y)
        have hzb : 0 ≤ cs[m]'(by omega) ∧ cs[m]'(by omega) < 2147483648 := by
         have h1 := HL.out.get m (by omega)
         rcases HZ.out m (by omega) with h2 | h2
         · exact ⟨h1.1, h2.2⟩
         · omega
        generalize cs[m]'(by omega) = z at *
        obtain ⟨l, hl⟩ : ∃ l, l = x * 2147483648 % 4294967296 := ⟨_, rfl⟩
        have q7 := hl.symm
        have ho := or_low (z := z) (x := x) (up := 31) (by omega) hzb.1 (by show z < 2147483648; exact hzb.2) b1
        rw [show (2 : Int) ^ 31 = 2147483648 from rfl, ← hl] at ho
        have hlv : l = 2147483648 * (x % 2) := by omega
        obtain ⟨y, hy⟩ : ∃ y, y = z + l := ⟨_, rfl⟩
        rw [← hy] at ho
        have q9 := ho.1
        have hyb : 0 ≤ y ∧ y < 4294967296 := by omega
        have HLV := Lib.hid hlv
        have HY := Lib.hid hy
        have HM := Lib.hid hm2
        clear hm2 h0 hl hlv hy ho
        go_wp2
        go_roundg (xs.length - (i + 1))
        case measure => omega
        case rel =>
         have hmi := HM.out
         subst hmi
         refine ⟨m + 1 + 1, (cs.set m y).set (m + 1) hh, by omega, by omega, by go_num, by simpa using hl1, by simpa using hl2, OwnN.set (OwnN.set HO.out _ _) _ _, (HD.out.setCell HB.out.size _).setCell HB.out.size _, (HL.out.set _ hyb.1 hyb.2).set _ hhb.1 (by omega), ?_, ?_⟩
         · show _ = _
           have e0 := V_set (xs := cs.set m y) (i := m + 1) (by simp; omega) hh
           rw [List.getElem_set_ne (by omega), hzi] at e0
           have e1 := hsm.out y
           have e2 := HE.out
           have e3 := half_step (p := Bp m) (X := V (xs.take (m + 1))) (x := x) (h := hh) (l := x % 2) (by have := HH.out; omega)
           rw [HV.out, Bp_succ, e3, e0, e1, e2, HY.out, HLV.out, Bp_succ]
           have e4 : z + 2147483648 * (x % 2) - z = 2147483648 * (x % 2) := by omega
           rw [e4, Int.sub_zero]
         · intro j hj
           by_cases hj0 : j = m + 1
           · subst hj0
             exact .inl ⟨fun h => absurd h (by omega), by simpa using hhb.2⟩
           · by_cases hj1 : j = m
             · exact .inr (by omega)
             · rw [List.getElem_set_ne (by omega), List.getElem_set_ne (by omega)]
               rcases HZ.out j (by simpa using hj) with h1 | h1
               · exact .inl ⟨fun h => h1.1 (by omega), h1.2⟩
               · exact .inr (by omega)
    · have hltz : ¬ (i : Int) < (xs.length : Int) := by omega
      have HE2 : Hid (V cs = S) := by
       show _ = _
       rw [HE.out, V_take_all (by omega)]; exact HS.out
      have hN := Lib.hid (r1_Norm (some ⟨w1.heap.size, 0, none⟩) xs.length cs wr ⟨OwnN.row HO.out, HL.out, hl1⟩ (by omega))
      rw [HE2.out, show cs.length = xs.length by omega] at hN
      clear HE HZ
      go_wp2_with fail
      refine hN.out.mono ?_
      rintro e w' ⟨A', c', rfl, g1, g2, g3⟩
      have G2 := Lib.hid g2
      have G3 := Lib.hid (HD.out.trans (g3.mono HD.out.size))
      clear g2 g3
      go_wp2
      go_ret2
      exact ⟨A', c', rfl, g1, G2.out, G3.out⟩
end Go.Proofs.YtidgpkccjcddgaaGreatDoor.F
