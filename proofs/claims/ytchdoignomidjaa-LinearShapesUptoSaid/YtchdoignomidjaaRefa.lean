/- The walks of the reference's layer 1, first part: Norm, at, Cmp, Of. Conditions: the limbs are limbs, lengths at most 2^41. -/
import Derived.Test.YtchdoignomidjaaRatd
set_option linter.unusedVariables false
set_option linter.unusedSimpArgs false
namespace Go.Proofs.Ytchdoignomidjaa.F
open Go.RowKit Go.Shelf Go.Proofs.YtchdoignomidjaaW.PrintLast

/-- a number in new memory, and where -/
def ToldF (w : World) (n : Int) (e : Ending) (w' : World) : Prop :=
  ∃ A c, e = .returned (.slice A (dg n.toNat).length c) ∧ (dg n.toNat).length ≤ c ∧ Rn w' A (dg n.toNat) ∧ Below w.heap.size w w' ∧ ∀ ad, A = some ad → w.heap.size ≤ ad.block
theorem ToldF.told {w : World} {n : Int} {e : Ending} {w' : World} (h : ToldF w n e w') : Told w n e w' := by
  obtain ⟨A, c, h1, h2, h3, h4, _⟩ := h
  exact ⟨A, c, h1, h2, h3, h4⟩

set_option maxHeartbeats 2000000 in
theorem r1_NormF (A : Option Addr) (c : Nat) (xs : List Int) (w : World) (h : In w A c xs) (hm : xs.length ≤ 2199023255552) :
    Calls Try.prog 108 #[.slice A xs.length c] w fun e w' => ToldF w (V xs) e w' := by
  have hc := h.cap
  have HX := Lib.hid h.row
  have HL := Lib.hid h.lim
  clear h
  unfold ToldF
  go_enter Try.func108, Try.ntmps108
  go_wp2
  go_loopg [3] xs.length (fun gg s3 wr => ∃ k : Nat, k ≤ xs.length ∧ k ≤ gg ∧ s3 = .int .i64 k ∧ Hid (Below w.heap.size w wr) ∧ Hid (∀ i (hi : i < xs.length), k ≤ i → xs[i] = 0))
  case atStart => exact ⟨xs.length, by omega, by omega, rfl, Below.refl _ w, fun i hi hk => by omega⟩
  case round =>
    obtain ⟨k, hk, hg, rfl, BW, A1⟩ := hrel
    by_cases h0 : 0 < k
    · obtain ⟨j, rfl⟩ : ∃ j, k = j + 1 := ⟨k - 1, by omega⟩
      obtain ⟨ad, rfl, hcell⟩ := Knd.at_int HX.out j (by omega)
      have hcell' := cell_below BW.out hcell
      clear hcell
      by_cases hz : xs[j] = 0
      · have HZ := Lib.hid hz
        rw [hz] at hcell'
        clear hz
        go_wp2
        go_roundg j
        case measure => omega
        case rel =>
          refine ⟨j, by omega, by omega, by go_num, by first | exact BW | exact below_drewN BW _, (show Hid _ from fun i hi hj => ?_)⟩
          by_cases e : i = j
          · subst e; exact HZ.out
          · exact A1.out i hi (by omega)
      · have HT := Lib.hid (take_dg HL.out hk A1.out (fun _ => hz)).symm
        have HU := Lib.hid (HX.out.take (j + 1))
        have hln : (dg (V xs).toNat).length = j + 1 := by rw [HT.out, List.length_take]; omega
        have hul : (xs.take (j + 1)).length = j + 1 := by rw [List.length_take]; omega
        have hz' : (xs[j] == 0) = false := by simpa using hz
        clear hz HX A1
        generalize xs[j] = y at hcell' hz'
        generalize xs.take (j + 1) = us at *
        have hln' := Lib.hid (hln.trans hul.symm)
        have u1 : us.length ≤ j + 1 := by omega
        have u2 : j + 1 ≤ us.length := by omega
        clear hln hul
        have hmk := fun W => run_makeL (P := Try.prog) 27 96 Try.underlying27 info96 ((j : Int) + 1) us.length (by omega) (by omega) W
        go_wp2
        clear hmk
        obtain ⟨w0, rfl⟩ : ∃ w0, w0 = wr := ⟨wr, rfl⟩
        go_loopg [5] us.length (fun gg s5 w2 => ∃ (i : Nat) (cs : List Int), i ≤ us.length ∧ us.length - i ≤ gg ∧ s5 = .int .i64 i ∧ cs.length ≤ us.length ∧ us.length ≤ cs.length ∧ Hid (OwnN w2 w0.heap.size cs) ∧ Hid (Below w.heap.size w w2) ∧ Hid (∀ m (h1 : m < cs.length) (h2 : m < us.length), m < i → cs[m] = us[m]))
        case atStart => exact ⟨0, List.replicate us.length 0, Nat.zero_le _, by omega, rfl, by simp, by simp, own_zeros _ _ _, BW.out.alloc BW.out.size _, fun m h1 h2 hm => by omega⟩
        case round =>
          obtain ⟨i, cs, hi, hg2, rfl, hl1, hl2, HO, HB, HE⟩ := hrel
          by_cases hlt : i < us.length
          · have hltz : (i : Int) < ((j : Int) + 1) := by omega
            obtain ⟨ad2, hae, hcell⟩ := Knd.at_int HU.out i hlt
            obtain rfl := Option.some.inj hae
            have hce := cell_below HB.out hcell
            have c3 := OwnN.cell HO.out i (by omega)
            have c4 := Own.frozen HO.out i
            have HS : Hid (∀ m (h1 : m < (cs.set i us[i]).length) (h2 : m < us.length), m < i + 1 → (cs.set i us[i])[m] = us[m]) := fun m h1 h2 hm => by
              by_cases e : m = i
              · subst e; simp
              · rw [List.getElem_set_ne (by omega)]; exact HE.out m (by simpa using h1) h2 (by omega)
            clear HE hcell
            generalize us[i] = x at *
            generalize cs[i] = z at c3
            go_wp2
            go_roundg (us.length - (i + 1))
            case measure => omega
            case rel => exact ⟨i + 1, cs.set i x, by omega, by omega, by go_num, by simpa using hl1, by simpa using hl2, HO.out.set _ _, HB.out.setCell BW.out.size _, HS⟩
          · have hltz : ¬ (i : Int) < ((j : Int) + 1) := by omega
            have heq : Hid (cs = us) := by
              show _ = _
              exact List.ext_getElem (by omega) fun m h1 h2 => HE.out m h1 h2 (by omega)
            go_wp2
            go_ret
            rw [heq.out] at HO
            rw [hln'.out, HT.out]
            exact ⟨some ⟨w0.heap.size, 0, none⟩, us.length, rfl, Nat.le_refl _, OwnN.row HO.out, HB.out, fun ad9 h9 => by obtain rfl := Option.some.inj h9; exact BW.out.size⟩
    · obtain rfl : k = 0 := by omega
      have HT := Lib.hid (take_dg HL.out hk A1.out (fun h => absurd h (Nat.lt_irrefl 0))).symm
      have HU := Lib.hid (HX.out.take 0)
      have hln : (dg (V xs).toNat).length = 0 := by rw [HT.out]; rfl
      have hul : (xs.take 0).length = 0 := rfl
      clear HX A1
      generalize xs.take 0 = us at *
      have hln' := Lib.hid (hln.trans hul.symm)
      have u1 : us.length ≤ 0 := by omega
      clear hln hul
      have hmk := fun W => run_makeL (P := Try.prog) 27 96 Try.underlying27 info96 (0 : Int) us.length (by omega) (by omega) W
      go_wp2
      clear hmk
      obtain ⟨w0, rfl⟩ : ∃ w0, w0 = wr := ⟨wr, rfl⟩
      go_loopg [5] us.length (fun gg s5 w2 => ∃ (i : Nat) (cs : List Int), i ≤ us.length ∧ us.length - i ≤ gg ∧ s5 = .int .i64 i ∧ cs.length ≤ us.length ∧ us.length ≤ cs.length ∧ Hid (OwnN w2 w0.heap.size cs) ∧ Hid (Below w.heap.size w w2) ∧ Hid (∀ m (h1 : m < cs.length) (h2 : m < us.length), m < i → cs[m] = us[m]))
      case atStart => exact ⟨0, List.replicate us.length 0, Nat.zero_le _, by omega, rfl, by simp, by simp, own_zeros _ _ _, BW.out.alloc BW.out.size _, fun m h1 h2 hm => by omega⟩
      case round =>
        obtain ⟨i, cs, hi, hg2, rfl, hl1, hl2, HO, HB, HE⟩ := hrel
        by_cases hlt : i < us.length
        · exact absurd hlt (by omega)
        · have hltz : ¬ (i : Int) < (0 : Int) := by omega
          have heq : Hid (cs = us) := by
            show _ = _
            exact List.ext_getElem (by omega) fun m h1 h2 => HE.out m h1 h2 (by omega)
          go_wp2
          go_ret
          rw [heq.out] at HO
          rw [hln'.out, HT.out]
          exact ⟨some ⟨w0.heap.size, 0, none⟩, us.length, rfl, Nat.le_refl _, OwnN.row HO.out, HB.out, fun ad9 h9 => by obtain rfl := Option.some.inj h9; exact BW.out.size⟩

theorem r1_Norm (A : Option Addr) (c : Nat) (xs : List Int) (w : World) (h : In w A c xs) (hm : xs.length ≤ 2199023255552) :
    Calls Try.prog 108 #[.slice A xs.length c] w fun e w' => Told w (V xs) e w' := (r1_NormF A c xs w h hm).mono fun _ _ hh => hh.told

set_option maxHeartbeats 1000000 in
theorem r1_at (A : Option Addr) (c : Nat) (xs : List Int) (i : Nat) (w : World) (h : In w A c xs) :
    Calls Try.prog 136 #[.slice A xs.length c, .int .i64 i] w fun e w' => e = .returned (.int .u64 (xs.getD i 0)) ∧ w' = w := by
  have hc := h.cap
  by_cases hlt : i < xs.length
  · obtain ⟨ad, rfl, hcell⟩ := Knd.at_int h.row i hlt
    have hb := h.lim.get i hlt
    have e1 : xs.getD i 0 = xs[i] := by simp [List.getD, List.getElem?_eq_getElem hlt]
    rw [e1]
    clear h e1
    generalize xs[i] = x at *
    have hltz : ¬ (xs.length : Int) ≤ (i : Int) := by omega
    have hw : IntKind.u64.wrap x = x := u64w (by omega) (by omega)
    go_enter Try.func136, Try.ntmps136
    go_wp2
    go_ret
    exact ⟨rfl, rfl⟩
  · have e1 : xs.getD i 0 = 0 := by simp [List.getD, List.getElem?_eq_none (show xs.length ≤ i by omega)]
    rw [e1]
    clear h e1
    have hltz : (xs.length : Int) ≤ (i : Int) := by omega
    go_enter Try.func136, Try.ntmps136
    go_wp2
    go_ret
    exact ⟨rfl, rfl⟩

set_option maxHeartbeats 1000000 in
theorem r1_Of (n : Int) (w : World) (h0 : 0 ≤ n) (h1 : n < 18446744073709551616) :
    Calls Try.prog 114 #[.int .u64 n] w fun e w' => Told w n e w' := by
  have HO := Lib.hid (r1_Norm (some ⟨w.heap.size, 0, none⟩) 2 [n % 4294967296, n / 4294967296] (w.alloc (.cells #[.int .u32 (n % 4294967296), .int .u32 (n / 4294967296)] 96))
    ⟨Rn.two (by simp [go_sem]) (by simp [go_sem]), Lim.cons (by omega) (by omega) (Lim.cons (by omega) (by omega) Lim.nil), Nat.le_refl _⟩ (by simp))
  rw [V_two] at HO
  go_enter Try.func114, Try.ntmps114
  go_wp2_with fail
  refine HO.out.mono ?_
  clear HO
  rintro e w6 ⟨A6, c6, rfl, g4, g5, g6⟩
  have HB := Lib.hid ((((Below.refl _ w).alloc (Nat.le_refl _) _).trans (g6.mono (by simp)) : Below w.heap.size w w6))
  have G5 := Lib.hid g5
  clear g5 g6
  go_wp2
  go_ret
  exact ⟨A6, c6, rfl, g4, G5.out, HB.out⟩
end Go.Proofs.Ytchdoignomidjaa.F
