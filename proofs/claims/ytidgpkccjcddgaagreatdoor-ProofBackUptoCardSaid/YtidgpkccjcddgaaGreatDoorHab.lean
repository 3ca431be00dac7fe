/- A numeral is read: the reference's Parse of numbers, at base 10. Condition: a text of at most 4294967296 bytes. -/
import Derived.Test.YtidgpkccjcddgaaGreatDoorGn
import Derived.Test.YtidgpkccjcddgaaGreatDoorGf
import Derived.Test.YtidgpkccjcddgaaGreatDoorGe
import Derived.Lib.MinMax
import Derived.Test.YtidgpkccjcddgaaGreatDoorGi
set_option linter.unusedVariables false
set_option linter.unusedSimpArgs false
namespace Go.Proofs.YtidgpkccjcddgaaGreatDoor.F
open Go.RowKit Go.Shelf Go.Proofs.YtidgpkccjcddgaaGreatDoorW.PrintLast
def nOk (l : List UInt8) : Bool := !l.isEmpty && !(decide (1 < l.length) && l.getD 0 0 == 48) && l.all isDig
def ToldP (w : World) (s : List UInt8) (e : Ending) (w' : World) : Prop :=
 (nOk s = true ∧ ∃ A c, e = .returned (.tuple #[.slice A (dg (decV 0 s)).length c, .int .i64 0]) ∧ In w' A c (dg (decV 0 s)) ∧ Below w.heap.size w w') ∨
  (nOk s = false ∧ e = .returned (.tuple #[.slice none 0 0, .int .i64 15]) ∧ Below w.heap.size w w')
theorem nOk_nil : nOk [] = false := rfl
theorem nOk_zero {b : UInt8} {r : List UInt8} (h : 1 < (b :: r).length) (h0 : b = 48) : nOk (b :: r) = false := by
 subst h0
 unfold nOk
 rw [decide_eq_true h]
 simp
theorem nOk_of {l : List UInt8} (h0 : l ≠ []) (h1 : ¬ (1 < l.length ∧ l.getD 0 0 = 48)) : nOk l = l.all isDig := by
 unfold nOk
 have e1 : l.isEmpty = false := by simpa using h0
 have e2 : (decide (1 < l.length) && l.getD 0 0 == 48) = false := by
  by_cases h2 : 1 < l.length
  · have : ¬ l.getD 0 0 = 48 := fun e => h1 ⟨h2, e⟩
    rw [show (l.getD 0 0 == 48) = false by rw [beq_eq_false_iff_ne]; exact this]
    simp
  · rw [decide_eq_false h2]; rfl
 rw [e1, e2]
 rfl
theorem In.unit {w : World} {x : Int} (h0 : 0 ≤ x) (h1 : x < 4294967296) : In (w.alloc (.cells #[.int .u32 x] 133)) (some ⟨w.heap.size, 0, none⟩) 1 [x] :=
 ⟨(show OwnN (w.alloc (.cells #[.int .u32 x] 133)) w.heap.size [x] from Own.mk [.int .u32 x] 133).row, Lim.cons h0 h1 Lim.nil, by simp⟩
theorem below_one (w : World) (x : Int) : Below w.heap.size w (w.alloc (.cells #[.int .u32 x] 133)) := (Below.refl _ w).alloc (Nat.le_refl _) _
theorem mulN (A : Option Addr) (c m : Nat) (B : Option Addr) (d n : Nat) (w : World) (h : In w A c (dg m)) (hm : (dg m).length ≤ 549755813888) (k : In w B d (dg n)) (km : (dg n).length ≤ 549755813888) :
 Calls Tryz.prog 151 #[.slice A (dg m).length c, .slice B (dg n).length d] w fun e w' => ∃ A' c', e = .returned (.slice A' (dg (m * n)).length c') ∧ In w' A' c' (dg (m * n)) ∧ Below w.heap.size w w' := by
 refine (nat_Mul A c (dg m) B d (dg n) w h.row h.lim h.cap hm k.row k.lim k.cap km).mono ?_
 rintro e w' ⟨A', c', rfl, h1, h2, h3⟩
 rw [V_dg, V_dg, show ((m : Int) * (n : Int)).toNat = m * n by rw [← Int.natCast_mul]; rfl] at h1 h2 ⊢
 exact ⟨A', c', rfl, In.dg h2 h1, h3⟩
theorem ownN (A : Option Addr) (c : Nat) (xs : List Int) (w : World) (h : In w A c xs) (hm : xs.length ≤ 1099511627776) (n : Nat) (hn : V xs = n) :
 Calls Tryz.prog 198 #[.slice A xs.length c] w fun e w' => ∃ A' c', e = .returned (.slice A' (dg n).length c') ∧ In w' A' c' (dg n) ∧ Below w.heap.size w w' := by
 refine (nat_own' A xs.length c xs w rfl h.row h.lim h.cap hm).mono ?_
 rintro e w' ⟨A', c', rfl, h1, h2, h3⟩
 rw [hn, Int.toNat_natCast] at h1 h2 ⊢
 exact ⟨A', c', rfl, In.dg h2 h1, h3⟩
theorem pow_half (S m : Nat) : S ^ m = S ^ (m % 2) * (S * S) ^ (m / 2) := by
 rw [← Nat.pow_two, ← Nat.pow_mul, ← Nat.pow_add]
 congr 1; omega
theorem pow_le_of {P S m Y : Nat} (hP : 1 ≤ P) (hS : 1 ≤ S) (hm : 1 ≤ m) (h : P * S ^ m = Y) : P ≤ Y ∧ S ≤ Y := by
 have h1 : 1 ≤ S ^ m := Nat.one_le_pow _ _ hS
 have h2 : S ≤ S ^ m := by
  calc S = S ^ 1 := (Nat.pow_one S).symm
   _ ≤ S ^ m := Nat.pow_le_pow_right hS hm
 constructor
 · rw [← h]; exact Nat.le_mul_of_pos_right _ h1
 · rw [← h]; exact Nat.le_trans h2 (Nat.le_mul_of_pos_left _ hP)
set_option maxHeartbeats 2000000 in
set_option maxRecDepth 100000 in
theorem nat_Pow (A : Option Addr) (c : Nat) (xs : List Int) (n X : Nat) (w : World) (h : In w A c xs) (hm : xs.length ≤ 549755813888) (hX : V xs = X) (hX1 : 1 ≤ X) (hn : n ≤ 4096) (hb : (dg (X ^ n)).length ≤ 549755813888) :
 Calls Tryz.prog 240 #[.slice A xs.length c, .int .i64 n] w fun e w' => ∃ A' c', e = .returned (.tuple #[.slice A' (dg (X ^ n)).length c', .int .i64 0]) ∧ In w' A' c' (dg (X ^ n)) ∧ Below w.heap.size w w' := by
 have hO := Lib.hid (fun (W : World) (k : Below w.heap.size w W) => ownN A c xs W (h.below k) (by omega) X hX)
 have hn0 : ¬ (n : Int) < 0 := by omega
 have hn1 : ¬ (4096 : Int) < (n : Int) := by omega
 have H1 := Lib.hid (In.unit (w := w) (x := 1) (by decide) (by decide))
 have HB1 := Lib.hid (below_one w 1)
 clear h hX
 generalize hY : X ^ n = Y at *
 have HY := Lib.hid hY
 clear hY
 go_enter Tryz.func240, Tryz.ntmps240
 go_wp2_with fail
 refine (hO.out _ HB1.out).mono ?_
 rintro e W1 ⟨A1, c1, rfl, q1, q2⟩
 have HP := Lib.hid (show In W1 (some ⟨w.heap.size, 0, none⟩) 1 (dg 1) by rw [dg_one]; exact H1.out.below q2)
 have HS := Lib.hid q1
 have HB := Lib.hid (HB1.out.trans (q2.mono HB1.out.size))
 have hl1 : (dg 1).length = 1 := by rw [dg_one]; rfl
 clear hO H1 HB1 q1 q2 hn0 hn1
 go_wp2_with fail
 go_loopg [1, 6, 7] n (fun gg s1 s6 s7 wr => ∃ (m P S : Nat) (A : Option Addr) (c : Nat) (B : Option Addr) (d : Nat), m ≤ gg ∧ m ≤ 4096 ∧ s1 = .int .i64 m ∧ s6 = .slice A (dg P).length c ∧ s7 = .slice B (dg S).length d ∧ Hid (P * S ^ m = Y ∧ 1 ≤ P ∧ 1 ≤ S) ∧ Hid (In wr A c (dg P)) ∧ Hid (In wr B d (dg S)) ∧ Hid (Below w.heap.size w wr))
 case atStart => exact ⟨n, 1, X, _, _, _, _, Nat.le_refl _, hn, rfl, by rw [hl1], rfl, (show _ ∧ _ ∧ _ from ⟨by rw [Nat.one_mul, HY.out], Nat.le_refl _, hX1⟩), HP, HS, HB⟩
 case round =>
  clear HP HS HB
  obtain ⟨m, P, S, A, c, B, d, hg, hm4, rfl, rfl, rfl, HV, HP, HS, HB⟩ := hrel
  by_cases hm0 : 0 < m
  · have hmz : (0 : Int) < (m : Int) := by omega
    have e1 : (m : Int) / 2 = ((m / 2 : Nat) : Int) := by omega
    have hle := pow_le_of HV.out.2.1 HV.out.2.2 hm0 HV.out.1
    have lP : (dg P).length ≤ 549755813888 := Nat.le_trans (dg_length_mono hle.1) hb
    have lS : (dg S).length ≤ 549755813888 := Nat.le_trans (dg_length_mono hle.2) hb
    have hh := pow_half S m
    have b1 : 2 * (m / 2) ≤ m := by omega
    have b2 : m ≤ 2 * (m / 2) + 1 := by omega
    generalize m / 2 = k at *
    by_cases hodd : m % 2 = 1
    · have e2 : (m : Int) % 2 = 1 := by omega
      have HV2 := Lib.hid (show (P * S) * (S * S) ^ (k) = Y ∧ 1 ≤ P * S ∧ 1 ≤ S * S from ⟨by rw [← HV.out.1, hh, hodd, Nat.pow_one, Nat.mul_assoc], Nat.mul_pos HV.out.2.1 HV.out.2.2, Nat.mul_pos HV.out.2.2 HV.out.2.2⟩)
      have hM := Lib.hid (mulN A c P B d S wr HP.out lP HS.out lS)
      by_cases hm1 : 1 < m
      · have hmz1 : (1 : Int) < (m : Int) := by omega
        have hM2 := Lib.hid (fun (W : World) (k : Below wr.heap.size wr W) => mulN B d S B d S W (HS.out.below k) lS (HS.out.below k) lS)
        clear hh hle hodd HV
        go_wp2_with fail
        refine hM.out.mono ?_
        rintro e W2 ⟨A2, c2, rfl, q1, q2⟩
        have HP2 := Lib.hid q1
        have hM3 := Lib.hid (hM2.out _ q2)
        replace HB := Lib.hid (HB.out.trans (q2.mono HB.out.size))
        clear hM hM2 q1 q2 HP HS
        go_wp2_with fail
        refine hM3.out.mono ?_
        rintro e W3 ⟨A3, c3, rfl, q1, q2⟩
        have HS2 := Lib.hid q1
        replace HP2 := Lib.hid (HP2.out.below q2)
        replace HB := Lib.hid (HB.out.trans (q2.mono HB.out.size))
        clear hM3 q1 q2
        go_wp2
        go_roundg (k)
        case measure => omega
        case rel => exact ⟨k, P * S, S * S, _, _, _, _, Nat.le_refl _, by omega, by go_num, rfl, rfl, HV2, HP2, HS2, HB⟩
      · have hmz1 : ¬ (1 : Int) < (m : Int) := by omega
        have HV3 := Lib.hid (show (P * S) * S ^ (k) = Y ∧ 1 ≤ P * S ∧ 1 ≤ S from ⟨by
         have h0 : k = 0 := by omega
         have h1 := HV2.out.1
         rw [h0, Nat.pow_zero] at h1 ⊢
         exact h1, HV2.out.2.1, HV.out.2.2⟩)
        clear hh hle hodd HV HV2
        go_wp2_with fail
        refine hM.out.mono ?_
        rintro e W2 ⟨A2, c2, rfl, q1, q2⟩
        have HP2 := Lib.hid q1
        replace HS := Lib.hid (HS.out.below q2)
        replace HB := Lib.hid (HB.out.trans (q2.mono HB.out.size))
        clear hM q1 q2 HP
        go_wp2
        go_roundg (k)
        case measure => omega
        case rel => exact ⟨k, P * S, S, _, _, _, _, Nat.le_refl _, by omega, by go_num, rfl, rfl, HV3, HP2, HS, HB⟩
    · have e2 : (m : Int) % 2 = 0 := by omega
      have hmz1 : (1 : Int) < (m : Int) := by omega
      have HV2 := Lib.hid (show P * (S * S) ^ (k) = Y ∧ 1 ≤ P ∧ 1 ≤ S * S from ⟨by rw [← HV.out.1, hh, show m % 2 = 0 by omega, Nat.pow_zero, Nat.one_mul], HV.out.2.1, Nat.mul_pos HV.out.2.2 HV.out.2.2⟩)
      have hM := Lib.hid (mulN B d S B d S wr HS.out lS HS.out lS)
      clear hh hle hodd HV
      go_wp2_with fail
      refine hM.out.mono ?_
      rintro e W2 ⟨A2, c2, rfl, q1, q2⟩
      have HS2 := Lib.hid q1
      replace HP := Lib.hid (HP.out.below q2)
      replace HB := Lib.hid (HB.out.trans (q2.mono HB.out.size))
      clear hM q1 q2 HS
      go_wp2
      go_roundg (k)
      case measure => omega
      case rel => exact ⟨k, P, S * S, _, _, _, _, Nat.le_refl _, by omega, by go_num, rfl, rfl, HV2, HP, HS2, HB⟩
  · have hmz : ¬ (0 : Int) < (m : Int) := by omega
    have hPY : P = Y := by
     have h1 := HV.out.1
     rw [show m = 0 by omega, Nat.pow_zero, Nat.mul_one] at h1
     exact h1
    clear HV
    subst hPY
    go_wp2
    go_ret2
    exact ⟨A, c, rfl, HP.out, HB.out⟩
theorem dg_ten (n : Nat) : (dg (10 ^ n)).length ≤ n + 1 := by
 refine dg_length_le ?_
 have h2 : (10 : Nat) ^ n ≤ 4294967296 ^ n := Nat.pow_le_pow_left (by decide) _
 have h3 : Bp n = ((4294967296 ^ n : Nat) : Int) := by unfold Bp; exact (Int.natCast_pow 4294967296 n).symm
 have h4 : Bp (n + 1) = 4294967296 * Bp n := Bp_succ n
 have h5 := Bp_pos n
 rw [h4, h3]
 rw [h3] at h5
 omega
set_option maxHeartbeats 2000000 in
set_option maxRecDepth 100000 in
theorem ratio_ten (n : Nat) (w : World) (hn : n ≤ 549755813880) :
 Calls Tryz.prog 186 #[.int .i64 n] w fun e w' => ∃ A' c', e = .returned (.slice A' (dg (10 ^ n)).length c') ∧ In w' A' c' (dg (10 ^ n)) ∧ Below w.heap.size w w' := by
 have H1 := Lib.hid (show In (w.alloc (.cells #[.int .u32 1] 133)) (some ⟨w.heap.size, 0, none⟩) 1 (dg 1) by rw [dg_one]; exact In.unit (w := w) (x := 1) (by decide) (by decide))
 have HB1 := Lib.hid (below_one w 1)
 have hl1 : (dg 1).length = 1 := by rw [dg_one]; rfl
 go_enter Tryz.func186, Tryz.ntmps186
 go_wp2_with fail
 go_loopg [0, 3] n (fun gg s0 s3 wr => ∃ (m j : Nat) (A : Option Addr) (c : Nat), m ≤ gg ∧ m + j = n ∧ s0 = .int .i64 m ∧ s3 = .slice A (dg (10 ^ j)).length c ∧ Hid (In wr A c (dg (10 ^ j))) ∧ Hid (Below w.heap.size w wr))
 case atStart => exact ⟨n, 0, _, _, Nat.le_refl _, by omega, rfl, by rw [Nat.pow_zero, hl1], H1, HB1⟩
 case round =>
  clear H1 HB1
  obtain ⟨m, j, A, c, hg, hmj, rfl, rfl, HP, HB⟩ := hrel
  by_cases hm0 : 0 < m
  · have hmz : (0 : Int) < (m : Int) := by omega
    obtain ⟨k, hk, hk1, hkm, hk4⟩ : ∃ k : Nat, min (m : Int) 4096 = (k : Int) ∧ 1 ≤ k ∧ k ≤ m ∧ k ≤ 4096 := ⟨min m 4096, by omega, by omega, by omega, by omega⟩
    have hPw := Lib.hid (fun (W : World) (B : Option Addr) (d : Nat) (k2 : In W B d [10]) => nat_Pow B d [10] k 10 W k2 (by simp) (by simp [V]) (by decide) hk4 (by have := dg_ten k; omega))
    have hMl := Lib.hid (fun (W : World) (B : Option Addr) (d : Nat) (k1 : In W A c (dg (10 ^ j))) (k2 : In W B d (dg (10 ^ k))) => mulN A c (10 ^ j) B d (10 ^ k) W k1 (by have := dg_ten j; omega) k2 (by have := dg_ten k; omega))
    rw [← Nat.pow_add] at hMl
    have H10 := Lib.hid (In.unit (w := wr) (x := 10) (by decide) (by decide))
    have HB10 := Lib.hid (below_one wr 10)
    have hPw2 := Lib.hid (hPw.out _ _ _ H10.out)
    replace HP := Lib.hid (HP.out.below HB10.out)
    replace HB := Lib.hid (HB.out.trans (HB10.out.mono HB.out.size))
    clear hPw H10 HB10
    go_wp2_with fail
    refine hPw2.out.mono ?_
    rintro e W2 ⟨A2, c2, rfl, q1, q2⟩
    have hM2 := Lib.hid (hMl.out _ _ _ (HP.out.below q2) q1)
    replace HB := Lib.hid (HB.out.trans (q2.mono HB.out.size))
    clear hPw2 hMl HP q1 q2
    go_wp2_with fail
    refine hM2.out.mono ?_
    rintro e W3 ⟨A3, c3, rfl, q1, q2⟩
    have HP3 := Lib.hid q1
    replace HB := Lib.hid (HB.out.trans (q2.mono HB.out.size))
    clear hM2 q1 q2
    go_wp2
    go_roundg (m - k)
    case measure => omega
    case rel => exact ⟨m - k, j + k, _, _, Nat.le_refl _, by omega, by go_num, rfl, HP3, HB⟩
  · have hmz : ¬ (0 : Int) < (m : Int) := by omega
    obtain rfl : j = n := by omega
    go_wp2
    go_ret
    exact ⟨A, c, rfl, HP.out, HB.out⟩
def OwnV (w : World) (B : Nat) (A : Option Addr) (c : Nat) (xs : List Int) : Prop := w.ownsRow B 133 1 (.slice A xs.length c) xs.length (xs.map (Value.int .u32))
theorem OwnV.nil (w : World) (B : Nat) : OwnV w B none 0 [] := World.ownsRow_nil _ _ _ _
theorem OwnV.blk {w : World} {B c : Nat} {A : Option Addr} {xs : List Int} (h : OwnV w B A c xs) {i : Nat} (hi : i < xs.length) : ∃ g, A = some ⟨g, 0, none⟩ ∧ B ≤ g := by
 rcases h.2 with ⟨_, h0⟩ | ⟨g, cap, cur, h1, h2, _⟩
 · omega
 · simp only [Value.slice.injEq] at h1
   exact ⟨g, h1.1, h2⟩
theorem OwnV.cell {w : World} {B c g : Nat} {xs : List Int} (h : OwnV w B (some ⟨g, 0, none⟩) c xs) (i : Nat) (hi : i < xs.length) : w.cell? ⟨g, i, none⟩ = some (.int .u32 xs[i]) := by
 rw [World.ownsRow.cellAt h i (by omega)]
 simp [hi]
theorem OwnV.frozen {w : World} {B c g : Nat} {xs : List Int} (h : OwnV w B (some ⟨g, 0, none⟩) c xs) (i : Nat) : w.frozen? ⟨g, i, none⟩ = false := World.ownsRow.frozenAt h i
theorem OwnV.set {w : World} {B c g : Nat} {xs : List Int} (h : OwnV w B (some ⟨g, 0, none⟩) c xs) (i : Nat) (y : Int) : OwnV (w.setCell ⟨g, i, none⟩ (.int .u32 y)) B (some ⟨g, 0, none⟩) c (xs.set i y) := by
 have := (World.ownsRow.stored h i (.int .u32 y)).1
 unfold OwnV
 rw [List.length_set, List.map_set]
 exact this
theorem OwnV.below {w w' : World} {B c : Nat} {A : Option Addr} {xs : List Int} (h : OwnV w B A c xs) (hb : Below w.heap.size w w') : OwnV w' B A c xs := by
 refine ⟨h.1, ?_⟩
 rcases h.2 with h | ⟨g, cap, cur, h1, h2, h3, h4⟩
 · exact .inl h
 · exact .inr ⟨g, cap, cur, h1, h2, by rw [hb.block g (Array.getElem?_eq_some_iff.1 h3).1]; exact h3, h4⟩
theorem OwnV.inn {w : World} {B c : Nat} {A : Option Addr} {xs : List Int} (h : OwnV w B A c xs) (hl : Lim xs) : In w A c xs := by
 refine ⟨fun i hi => ?_, hl, ?_⟩
 · obtain ⟨g, rfl, _⟩ := h.blk hi
   refine ⟨_, [.int .u32 xs[i]], rfl, rfl, fun j u hu => ?_⟩
   have hj : j = 0 := by
    cases j with
    | zero => rfl
    | succ j => simp at hu
   subst hj
   simp at hu
   subst hu
   have := h.cell i hi
   rw [show i * (Knd.int IntKind.u32).sz + 0 = i from by show i * 1 + 0 = i; omega]
   rwa [show (⟨g, 0, none⟩ : Addr).add i = ⟨g, i, none⟩ from by unfold Addr.add; split <;> simp_all]
 · rcases h.2 with ⟨h1, h0⟩ | ⟨g, cap, cur, h1, h2, h3, h4, _⟩
   · omega
   · simp only [Value.slice.injEq] at h1
     omega
theorem OwnV.push {w : World} {B c : Nat} {A : Option Addr} {xs : List Int} {y : Int} {ty : TypeId} (h : OwnV w B A c xs) (hl : xs.length ≤ 4294967296) (hB : B ≤ w.heap.size) :
 ∃ A' c' w', (Builtin.append_ #[39, 39] ty #[.slice A xs.length c, .slice (some ⟨w.heap.size, 0, none⟩) 1 1]).run Tryz.prog (w.alloc (.cells #[.int .u32 y] 133)) = .ok (.slice A' (xs.length + 1) c') w' ∧ OwnV w' B A' c' (xs ++ [y]) ∧ Below B w w' := by
 obtain ⟨i, hi0, hz, hs, hby⟩ := info_parts info96
 have hal : Below w.heap.size w (w.alloc (.cells #[.int .u32 y] 133)) := (Below.refl _ w).alloc (Nat.le_refl _) _
 have hob : Own (w.alloc (.cells #[.int .u32 y] 133)) w.heap.size [.int .u32 y] := Own.mk [.int .u32 y] 133
 have hown := h.below hal
 obtain ⟨v', w', hr, ho, hg, _⟩ := run_append_own (P := Tryz.prog) (w.alloc (.cells #[.int .u32 y] 133)) B 39 ty 133 i (.int .u32 0) 1 4 Tryz.underlying39 hi0 hz hs hby rfl (by decide) _ _ _ hown ⟨w.heap.size, 0, none⟩ 1 1 [.int .u32 y] rfl
  (fun j u hu => by
   have hj : j = 0 := by
    cases j with
    | zero => rfl
    | succ j => simp at hu
   subst hj
   simp at hu
   subst hu
   exact hob.cell 0 (by simp)) (by simp [Value.oneCell']) (by simp only [maxLen]; omega) (by omega) (Nat.le_trans hB hal.size)
 obtain ⟨A', c', rfl⟩ : ∃ A' c', v' = .slice A' (xs.length + 1) c' := by
  rcases ho.2 with ⟨h1, h0⟩ | ⟨g, cap, cur, h1, _⟩
  · omega
  · exact ⟨_, _, h1⟩
 refine ⟨A', c', w', hr, ?_, ?_⟩
 · unfold OwnV
   rw [List.length_append, List.map_append]
   exact ho
 · refine (hal.mono hB).trans ?_
   obtain ⟨g1, g2, g3, g4, g5⟩ := hg
   refine ⟨g1, g2, g3, g4, fun k hk => g5 k (Nat.lt_of_lt_of_le hk (Nat.le_trans hB hal.size)) fun e => ?_⟩
   have := (World.ownsRow.lt hown k e.symm).1
   omega
def tv (i : Nat) : Int := if i < 10 then i else if i < 49 then 99 else (i : Int) - 39
def Tab (w : World) : Prop := ∀ i : Nat, i < 55 → w.cell? ⟨0, i, none⟩ = some (.int .u32 (tv i))
theorem Tab.below {w w' : World} (h : Tab w) (hb : Below w.heap.size w w') : Tab w' := fun i hi => cell_below hb (h i hi)
theorem run_tab (W : World) (j : Nat) (hj : j < 55) : (Instr.indexAt 260 (.pointer (some ⟨0, 0, none⟩)) (.int .i64 (j : Int))).run Tryz.prog W = .ok (.pointer (some ⟨0, j, none⟩)) W := by
 have ht : Tryz.prog.underlying 260 = some (.array 55 133) := by kernel_rfl
 have hs : Tryz.t133.size = 1 := by kernel_rfl
 simp [Instr.indexAt, run_underlying ht, Instr.sureAddr, asIntOf, sizeOf]
 rw [if_pos hj, hs, Nat.mul_one]
 unfold Addr.add
 split <;> simp_all
theorem ten_step {k : Nat} {x z t c c' A A' X : Int} (ht : x * 10 + c = t + 4294967296 * c') (hz : z = x) (hA : A' = A + Bp k * (t - z)) (H : A + Bp k * c = X) : A' + Bp (k + 1) * c' = X + Bp k * (x * 9) := by
 have e : Bp (k + 1) = 4294967296 * Bp k := Bp_succ k
 subst hz
 have h2 : Bp k * (z * 10 + c) = Bp k * (t + 4294967296 * c') := by rw [ht]
 rw [e, hA]
 rw [Int.mul_add, Int.mul_add] at h2
 rw [Int.mul_sub, ← H, Int.mul_assoc, Int.mul_left_comm, show Bp k * (z * 9) = Bp k * (z * 10) - Bp k * z by rw [← Int.mul_sub]; congr 1; omega]
 omega
set_option maxHeartbeats 4000000 in
set_option maxRecDepth 100000 in
theorem nat_Parse (s : List UInt8) (w : World) (hs : s.length ≤ 4294967296) (hT : Tab w) :
 Calls Tryz.prog 184 #[.string ⟨s.toArray⟩, .int .i64 10] w (ToldP w s) := by
 have HTab := Lib.hid hT
 clear hT
 by_cases hn0 : s = []
 · subst hn0
   have HR := Lib.hid nOk_nil
   go_enter Tryz.func184, Tryz.ntmps184
   go_wp2
   go_ret2
   exact .inr ⟨HR.out, rfl, Below.refl _ _⟩
 have hp : 0 < s.length := List.length_pos_iff.2 hn0
 have hem : s.isEmpty = false := by simpa using hn0
 have hem2 : (s == []) = false := by simpa using hn0
 have hg0 : s.getD 0 0 = s[0] := by simp [hp]
 have hx : (⟨s.toArray⟩ : ByteArray)[0]'(show 0 < s.toArray.size by simpa using hp) = s[0] := rfl
 by_cases hz : 1 < s.length ∧ s[0] = 48
 · have h1 : (1 : Int) < (s.length : Int) := by omega
   have h2 : s[0]'hp = 48 := hz.2
   rw [h2] at hx
   have HR := Lib.hid (show nOk s = false by
    cases s with
    | nil => exact absurd rfl hn0
    | cons b r => exact nOk_zero hz.1 hz.2)
   clear hz hn0 hg0
   go_enter Tryz.func184, Tryz.ntmps184
   go_wp2
   go_ret2
   exact .inr ⟨HR.out, rfl, Below.refl _ _⟩
 have HN := Lib.hid (nOk_of hn0 (by rw [hg0]; exact hz))
 have HZ := Lib.hid (show ∀ h : 1 < s.length, ((s[0].toNat : Int) == 48) = false from fun h => by
  rw [beq_eq_false_iff_ne]
  intro e
  exact hz ⟨h, UInt8.toNat_inj.1 (show s[0].toNat = 48 by omega)⟩)
 clear hz hn0 hg0
 generalize s[0] = x at *
 by_cases h1 : 1 < s.length
 · have h1z : (1 : Int) < (s.length : Int) := by omega
   have hz := HZ.out h1
   clear HZ
   go_enter Tryz.func184, Tryz.ntmps184
   go_wp2_with fail
   clear hx hz h1 h1z
   generalize x.toNat = x_ at *
   go_loopg [6, 32] s.length (fun gg s6 s32 wr => ∃ (i : Nat) (A : Option Addr) (c : Nat) (xs : List Int), i + gg = s.length ∧ s32 = .int .i64 i ∧ s6 = .slice A xs.length c ∧ xs.length ≤ i ∧ Hid (V xs = (decV 0 (s.take i) : Int) ∧ ∀ b ∈ s.take i, isDig b = true) ∧ Hid (Lim xs) ∧ Hid (OwnV wr w.heap.size A c xs) ∧ Hid (Below w.heap.size w wr))
   case atStart => exact ⟨0, none, 0, [], by omega, rfl, rfl, Nat.le_refl _, (show _ ∧ _ from ⟨by simp [decV_nil, V], fun b hb => by simp at hb⟩), Lim.nil, OwnV.nil _ _, Below.refl _ _⟩
   case round =>
    obtain ⟨i, A, c, xs, hg, rfl, rfl, hxl, HD, HL, HO, HB⟩ := hrel
    by_cases hlt : i < s.length
    · have hltz : (i : Int) < (s.length : Int) := by omega
      have HT := Lib.hid (List.take_succ_eq_append_getElem hlt)
      have HM := Lib.hid (List.getElem_mem hlt)
      have hb : (⟨s.toArray⟩ : ByteArray)[i]'(show i < s.toArray.size by simpa using hlt) = s[i] := rfl
      generalize s[i] = b at *
      have hb8 : b.toNat < 256 := b.toNat_lt
      have HTb := Lib.hid (HTab.out.below HB.out)
      by_cases hd : isDig b = true
      · have hb1 := (isDig_iff.1 hd).1
        have hb2 := (isDig_iff.1 hd).2
        obtain ⟨j, hj⟩ : ∃ j : Nat, b.toNat = 48 + j := ⟨b.toNat - 48, by omega⟩
        have hj10 : j < 10 := by omega
        have hcell := HTb.out j (by omega)
        rw [show tv j = (j : Int) by unfold tv; rw [if_pos hj10]] at hcell
        have HN2 := Lib.hid (show ((decV 0 (s.take i) * 10 + j : Nat) = decV 0 (s.take (i + 1))) ∧ ∀ b ∈ s.take (i + 1), isDig b = true from ⟨by rw [HT.out, decV_snoc]; unfold dstep; rw [hj]; omega, fun x hx => by
         rw [HT.out] at hx
         rcases List.mem_append.1 hx with hx | hx
         · exact HD.out.2 x hx
         · rw [List.mem_singleton.1 hx]; exact hd⟩)
        have HVx := Lib.hid HD.out.1
        have hIA := fun (W : World) => run_tab W j (by omega)
        have e0 : wrap64 (b.toNat : Int) = (b.toNat : Int) := by unfold wrap64; omega
        have e7 : wrap64 ((b.toNat : Int) - 48) = (j : Int) := by unfold wrap64; omega
        have hjz : (j : Int) < 10 := by omega
        have hjz0 : (0 : Int) ≤ (j : Int) := by omega
        clear HT HM HD hd HTb hj hb1 hb2 hb8
        go_wp2_with fail
        clear hcell hIA
        have hlx : xs.length ≤ 4294967296 := by omega
        go_loopg [9, 60] xs.length (fun gg s9 s60 wr' => ∃ (k : Nat) (cy : Int) (ys : List Int), k + gg = xs.length ∧ s60 = .int .i64 k ∧ s9 = .int .u64 cy ∧ 0 ≤ cy ∧ cy < 10 ∧ Hid (ys.length = xs.length) ∧ Hid (Lim ys) ∧ Hid (OwnV wr' w.heap.size A c ys) ∧ Hid (Below w.heap.size w wr') ∧ Hid (V ys + Bp k * cy = V xs + 9 * V (xs.take k) + (j : Int) ∧ ∀ i, k ≤ i → ys.getD i 0 = xs.getD i 0))
        case atStart => exact ⟨0, (j : Int), xs, by omega, rfl, rfl, by omega, by omega, rfl, HL, HO, HB, (show _ ∧ _ from ⟨by simp [Bp_zero, V], fun _ _ => rfl⟩)⟩
        case round =>
         clear HO HB
         obtain ⟨k, cy, ys, hgk, rfl, rfl, hc0, hc1, HYL, HYm, HO, HB, HV⟩ := hrel
         by_cases hlk : k < xs.length
         · have hlkz : (k : Int) < (xs.length : Int) := by omega
           have hlk2 : k < ys.length := by rw [HYL.out]; exact hlk
           obtain ⟨g, hA, hgB⟩ := HO.out.blk hlk2
           subst hA
           have c3 := HO.out.cell k hlk2
           have c4 := HO.out.frozen k
           have b3 := HYm.out.get k hlk2
           have hyx : ys[k] = xs[k] := by
            have := HV.out.2 k (Nat.le_refl _)
            simpa [hlk, hlk2] using this
           have hst := Lib.hid (fun (y : Int) => V_set hlk2 y)
           have KV := Lib.hid (V_take_succ hlk)
           have HYX := Lib.hid hyx
           clear hyx
           generalize hy : ys[k] = y at *
           clear hy
           generalize xs[k] = x0 at *
           go_wp2
           go_roundg (xs.length - (k + 1))
           case measure => omega
           case rel =>
            have ht : y * 10 + cy = (y * 10 + cy) % 4294967296 + 4294967296 * ((y * 10 + cy) / 4294967296) := by omega
            refine ⟨k + 1, (y * 10 + cy) / 4294967296, ys.set k ((y * 10 + cy) % 4294967296), by omega, by go_num, rfl, by omega, by omega, (show _ = _ by rw [List.length_set]; exact HYL.out), HYm.out.set _ (by omega) (by omega), HO.out.set _ _, HB.out.setCell hgB _, (show _ ∧ _ from ⟨?_, fun i hi => ?_⟩)⟩
            · have h1 := ten_step ht (Eq.refl y) (hst.out _) HV.out.1
              rw [h1, KV.out, HYX.out]
              rw [Int.mul_add, show Bp k * (x0 * 9) = 9 * (Bp k * x0) by rw [← Int.mul_assoc, Int.mul_comm]]
              omega
            · have h1 := HV.out.2 i (by omega)
              rw [← h1]
              simp only [List.getD_eq_getElem?_getD]
              rw [List.getElem?_set_ne (by omega)]
         · have hlkz : ¬ (k : Int) < (xs.length : Int) := by omega
           have hkl : k = xs.length := by omega
           have HE := Lib.hid (show V ys + Bp ys.length * cy = 10 * V xs + (j : Int) by
            have h1 := HV.out.1
            rw [hkl, V_take_all (Nat.le_refl _)] at h1
            rw [HYL.out, h1]; omega)
           clear HV hkl
           have HN3 := Lib.hid (show 10 * V xs + (j : Int) = (decV 0 (s.take (i + 1)) : Int) by rw [← HN2.out.1, HVx.out]; omega)
           by_cases hcy : 0 < cy
           · obtain ⟨A2, c2, W2, hr, ho, hb2⟩ := HO.out.push (y := cy) (ty := 39) (by rw [HYL.out]; exact hlx) HB.out.size
             rw [HYL.out] at hr
             have HP := Lib.hid hr
             have HO2 := Lib.hid ho
             have HB2 := Lib.hid (HB.out.trans hb2)
             clear hr ho hb2
             go_wp2_with (refine pushL_ rfl rfl rfl rfl HP.out ?_; clear HP)
             go_roundg (s.length - (i + 1))
             case measure => omega
             case rel => exact ⟨i + 1, A2, c2, ys ++ [cy], by omega, by go_num, by rw [List.length_append, HYL.out]; rfl, by rw [List.length_append, HYL.out]; simp; omega, (show _ ∧ _ from ⟨by rw [V_snoc, HE.out, HN3.out], HN2.out.2⟩), HYm.out.append (Lim.cons (by omega) (by omega) Lim.nil), HO2, HB2⟩
           · have hcy2 : ¬ 0 < cy := hcy
             obtain rfl : cy = 0 := by omega
             go_wp2
             go_roundg (s.length - (i + 1))
             case measure => omega
             case rel => exact ⟨i + 1, A, c, ys, by omega, by go_num, by rw [HYL.out], by rw [HYL.out]; omega, (show _ ∧ _ from ⟨by rw [← HN3.out, ← HE.out, Int.mul_zero, Int.add_zero], HN2.out.2⟩), HYm, HO, HB⟩
      · have hd2 : isDig b = false := by simpa using hd
        have HR := Lib.hid (show nOk s = false by
         rw [HN.out, List.all_eq_false]
         exact ⟨b, HM.out, by simpa using hd2⟩)
        have HB2 := HB
        have hnd : ¬ (48 ≤ b.toNat ∧ b.toNat ≤ 57) := fun h => hd (isDig_iff.2 h)
        clear HT HM HD hd hd2 HL HO
        have e0 : wrap64 (b.toNat : Int) = (b.toNat : Int) := by unfold wrap64; omega
        by_cases h48 : b.toNat < 48
        · obtain ⟨z, hz⟩ : ∃ z : Int, wrap64 ((b.toNat : Int) - 48) = z := ⟨_, rfl⟩
          have e8 : z < 0 := by rw [← hz]; unfold wrap64; omega
          clear HTb HB
          go_wp2
          go_ret2
          exact .inr ⟨HR.out, rfl, HB2.out⟩
        · obtain ⟨j, hj⟩ : ∃ j : Nat, b.toNat = 48 + j := ⟨b.toNat - 48, by omega⟩
          have e7 : wrap64 ((b.toNat : Int) - 48) = (j : Int) := by unfold wrap64; omega
          have hjz0 : (0 : Int) ≤ (j : Int) := by omega
          have hj10 : 10 ≤ j := by omega
          clear hj hnd h48 hb8
          have e8 : ¬ (j : Int) < 0 := by omega
          by_cases h55 : 55 ≤ j
          · have e9 : (55 : Int) ≤ (j : Int) := by omega
            clear HTb HB
            go_wp2
            go_ret2
            exact .inr ⟨HR.out, rfl, HB2.out⟩
          · have e9 : ¬ (55 : Int) ≤ (j : Int) := by omega
            have hIA := fun (W : World) => run_tab W j (by omega)
            have hcell := HTb.out j (by omega)
            have e10 : (10 : Int) ≤ tv j := by unfold tv; split <;> (try split) <;> omega
            have e11 : (j : Int) < 55 := by omega
            clear HTb HB
            generalize tv j = z at *
            go_wp2
            go_ret2
            exact .inr ⟨HR.out, rfl, HB2.out⟩
    · have hltz : ¬ (i : Int) < (s.length : Int) := by omega
      have hT : s.take i = s := List.take_of_length_le (by omega)
      have HR := Lib.hid (show nOk s = true by
       rw [HN.out, List.all_eq_true]
       intro b hb
       exact HD.out.2 b (by rw [hT]; exact hb))
      have HV := Lib.hid (show V xs = (decV 0 s : Int) by have := HD.out.1; rwa [hT] at this)
      have hO := Lib.hid (ownN A c xs wr (HO.out.inn HL.out) (by omega) (decV 0 s) HV.out)
      clear HD hT HV HO HL
      go_wp2_with fail
      refine hO.out.mono ?_
      rintro e W2 ⟨A2, c2, rfl, q1, q2⟩
      have HI := Lib.hid q1
      replace HB := Lib.hid (HB.out.trans (q2.mono HB.out.size))
      clear hO q1 q2
      go_wp2
      go_ret2
      exact .inl ⟨HR.out, A2, c2, rfl, HI.out, HB.out⟩
 · have h1z : ¬ (1 : Int) < (s.length : Int) := by omega
   clear HZ
   go_enter Tryz.func184, Tryz.ntmps184
   go_wp2_with fail
   clear hx h1 h1z
   go_loopg [6, 32] s.length (fun gg s6 s32 wr => ∃ (i : Nat) (A : Option Addr) (c : Nat) (xs : List Int), i + gg = s.length ∧ s32 = .int .i64 i ∧ s6 = .slice A xs.length c ∧ xs.length ≤ i ∧ Hid (V xs = (decV 0 (s.take i) : Int) ∧ ∀ b ∈ s.take i, isDig b = true) ∧ Hid (Lim xs) ∧ Hid (OwnV wr w.heap.size A c xs) ∧ Hid (Below w.heap.size w wr))
   case atStart => exact ⟨0, none, 0, [], by omega, rfl, rfl, Nat.le_refl _, (show _ ∧ _ from ⟨by simp [decV_nil, V], fun b hb => by simp at hb⟩), Lim.nil, OwnV.nil _ _, Below.refl _ _⟩
   case round =>
    obtain ⟨i, A, c, xs, hg, rfl, rfl, hxl, HD, HL, HO, HB⟩ := hrel
    by_cases hlt : i < s.length
    · have hltz : (i : Int) < (s.length : Int) := by omega
      have HT := Lib.hid (List.take_succ_eq_append_getElem hlt)
      have HM := Lib.hid (List.getElem_mem hlt)
      have hb : (⟨s.toArray⟩ : ByteArray)[i]'(show i < s.toArray.size by simpa using hlt) = s[i] := rfl
      generalize s[i] = b at *
      have hb8 : b.toNat < 256 := b.toNat_lt
      have HTb := Lib.hid (HTab.out.below HB.out)
      by_cases hd : isDig b = true
      · have hb1 := (isDig_iff.1 hd).1
        have hb2 := (isDig_iff.1 hd).2
        obtain ⟨j, hj⟩ : ∃ j : Nat, b.toNat = 48 + j := ⟨b.toNat - 48, by omega⟩
        have hj10 : j < 10 := by omega
        have hcell := HTb.out j (by omega)
        rw [show tv j = (j : Int) by unfold tv; rw [if_pos hj10]] at hcell
        have HN2 := Lib.hid (show ((decV 0 (s.take i) * 10 + j : Nat) = decV 0 (s.take (i + 1))) ∧ ∀ b ∈ s.take (i + 1), isDig b = true from ⟨by rw [HT.out, decV_snoc]; unfold dstep; rw [hj]; omega, fun x hx => by
         rw [HT.out] at hx
         rcases List.mem_append.1 hx with hx | hx
         · exact HD.out.2 x hx
         · rw [List.mem_singleton.1 hx]; exact hd⟩)
        have HVx := Lib.hid HD.out.1
        have hIA := fun (W : World) => run_tab W j (by omega)
        have e0 : wrap64 (b.toNat : Int) = (b.toNat : Int) := by unfold wrap64; omega
        have e7 : wrap64 ((b.toNat : Int) - 48) = (j : Int) := by unfold wrap64; omega
        have hjz : (j : Int) < 10 := by omega
        have hjz0 : (0 : Int) ≤ (j : Int) := by omega
        clear HT HM HD hd HTb hj hb1 hb2 hb8
        go_wp2_with fail
        clear hcell hIA
        have hlx : xs.length ≤ 4294967296 := by omega
        go_loopg [9, 60] xs.length (fun gg s9 s60 wr' => ∃ (k : Nat) (cy : Int) (ys : List Int), k + gg = xs.length ∧ s60 = .int .i64 k ∧ s9 = .int .u64 cy ∧ 0 ≤ cy ∧ cy < 10 ∧ Hid (ys.length = xs.length) ∧ Hid (Lim ys) ∧ Hid (OwnV wr' w.heap.size A c ys) ∧ Hid (Below w.heap.size w wr') ∧ Hid (V ys + Bp k * cy = V xs + 9 * V (xs.take k) + (j : Int) ∧ ∀ i, k ≤ i → ys.getD i 0 = xs.getD i 0))
        case atStart => exact ⟨0, (j : Int), xs, by omega, rfl, rfl, by omega, by omega, rfl, HL, HO, HB, (show _ ∧ _ from ⟨by simp [Bp_zero, V], fun _ _ => rfl⟩)⟩
        case round =>
         clear HO HB
         obtain ⟨k, cy, ys, hgk, rfl, rfl, hc0, hc1, HYL, HYm, HO, HB, HV⟩ := hrel
         by_cases hlk : k < xs.length
         · have hlkz : (k : Int) < (xs.length : Int) := by omega
           have hlk2 : k < ys.length := by rw [HYL.out]; exact hlk
           obtain ⟨g, hA, hgB⟩ := HO.out.blk hlk2
           subst hA
           have c3 := HO.out.cell k hlk2
           have c4 := HO.out.frozen k
           have b3 := HYm.out.get k hlk2
           have hyx : ys[k] = xs[k] := by
            have := HV.out.2 k (Nat.le_refl _)
            simpa [hlk, hlk2] using this
           have hst := Lib.hid (fun (y : Int) => V_set hlk2 y)
           have KV := Lib.hid (V_take_succ hlk)
           have HYX := Lib.hid hyx
           clear hyx
           generalize hy : ys[k] = y at *
           clear hy
           generalize xs[k] = x0 at *
           go_wp2
           go_roundg (xs.length - (k + 1))
           case measure => omega
           case rel =>
            have ht : y * 10 + cy = (y * 10 + cy) % 4294967296 + 4294967296 * ((y * 10 + cy) / 4294967296) := by omega
            refine ⟨k + 1, (y * 10 + cy) / 4294967296, ys.set k ((y * 10 + cy) % 4294967296), by omega, by go_num, rfl, by omega, by omega, (show _ = _ by rw [List.length_set]; exact HYL.out), HYm.out.set _ (by omega) (by omega), HO.out.set _ _, HB.out.setCell hgB _, (show _ ∧ _ from ⟨?_, fun i hi => ?_⟩)⟩
            · have h1 := ten_step ht (Eq.refl y) (hst.out _) HV.out.1
              rw [h1, KV.out, HYX.out]
              rw [Int.mul_add, show Bp k * (x0 * 9) = 9 * (Bp k * x0) by rw [← Int.mul_assoc, Int.mul_comm]]
              omega
            · have h1 := HV.out.2 i (by omega)
              rw [← h1]
              simp only [List.getD_eq_getElem?_getD]
              rw [List.getElem?_set_ne (by omega)]
         · have hlkz : ¬ (k : Int) < (xs.length : Int) := by omega
           have hkl : k = xs.length := by omega
           have HE := Lib.hid (show V ys + Bp ys.length * cy = 10 * V xs + (j : Int) by
            have h1 := HV.out.1
            rw [hkl, V_take_all (Nat.le_refl _)] at h1
            rw [HYL.out, h1]; omega)
           clear HV hkl
           have HN3 := Lib.hid (show 10 * V xs + (j : Int) = (decV 0 (s.take (i + 1)) : Int) by rw [← HN2.out.1, HVx.out]; omega)
           by_cases hcy : 0 < cy
           · obtain ⟨A2, c2, W2, hr, ho, hb2⟩ := HO.out.push (y := cy) (ty := 39) (by rw [HYL.out]; exact hlx) HB.out.size
             rw [HYL.out] at hr
             have HP := Lib.hid hr
             have HO2 := Lib.hid ho
             have HB2 := Lib.hid (HB.out.trans hb2)
             clear hr ho hb2
             go_wp2_with (refine pushL_ rfl rfl rfl rfl HP.out ?_; clear HP)
             go_roundg (s.length - (i + 1))
             case measure => omega
             case rel => exact ⟨i + 1, A2, c2, ys ++ [cy], by omega, by go_num, by rw [List.length_append, HYL.out]; rfl, by rw [List.length_append, HYL.out]; simp; omega, (show _ ∧ _ from ⟨by rw [V_snoc, HE.out, HN3.out], HN2.out.2⟩), HYm.out.append (Lim.cons (by omega) (by omega) Lim.nil), HO2, HB2⟩
           · have hcy2 : ¬ 0 < cy := hcy
             obtain rfl : cy = 0 := by omega
             go_wp2
             go_roundg (s.length - (i + 1))
             case measure => omega
             case rel => exact ⟨i + 1, A, c, ys, by omega, by go_num, by rw [HYL.out], by rw [HYL.out]; omega, (show _ ∧ _ from ⟨by rw [← HN3.out, ← HE.out, Int.mul_zero, Int.add_zero], HN2.out.2⟩), HYm, HO, HB⟩
      · have hd2 : isDig b = false := by simpa using hd
        have HR := Lib.hid (show nOk s = false by
         rw [HN.out, List.all_eq_false]
         exact ⟨b, HM.out, by simpa using hd2⟩)
        have HB2 := HB
        have hnd : ¬ (48 ≤ b.toNat ∧ b.toNat ≤ 57) := fun h => hd (isDig_iff.2 h)
        clear HT HM HD hd hd2 HL HO
        have e0 : wrap64 (b.toNat : Int) = (b.toNat : Int) := by unfold wrap64; omega
        by_cases h48 : b.toNat < 48
        · obtain ⟨z, hz⟩ : ∃ z : Int, wrap64 ((b.toNat : Int) - 48) = z := ⟨_, rfl⟩
          have e8 : z < 0 := by rw [← hz]; unfold wrap64; omega
          clear HTb HB
          go_wp2
          go_ret2
          exact .inr ⟨HR.out, rfl, HB2.out⟩
        · obtain ⟨j, hj⟩ : ∃ j : Nat, b.toNat = 48 + j := ⟨b.toNat - 48, by omega⟩
          have e7 : wrap64 ((b.toNat : Int) - 48) = (j : Int) := by unfold wrap64; omega
          have hjz0 : (0 : Int) ≤ (j : Int) := by omega
          have hj10 : 10 ≤ j := by omega
          clear hj hnd h48 hb8
          have e8 : ¬ (j : Int) < 0 := by omega
          by_cases h55 : 55 ≤ j
          · have e9 : (55 : Int) ≤ (j : Int) := by omega
            clear HTb HB
            go_wp2
            go_ret2
            exact .inr ⟨HR.out, rfl, HB2.out⟩
          · have e9 : ¬ (55 : Int) ≤ (j : Int) := by omega
            have hIA := fun (W : World) => run_tab W j (by omega)
            have hcell := HTb.out j (by omega)
            have e10 : (10 : Int) ≤ tv j := by unfold tv; split <;> (try split) <;> omega
            have e11 : (j : Int) < 55 := by omega
            clear HTb HB
            generalize tv j = z at *
            go_wp2
            go_ret2
            exact .inr ⟨HR.out, rfl, HB2.out⟩
    · have hltz : ¬ (i : Int) < (s.length : Int) := by omega
      have hT : s.take i = s := List.take_of_length_le (by omega)
      have HR := Lib.hid (show nOk s = true by
       rw [HN.out, List.all_eq_true]
       intro b hb
       exact HD.out.2 b (by rw [hT]; exact hb))
      have HV := Lib.hid (show V xs = (decV 0 s : Int) by have := HD.out.1; rwa [hT] at this)
      have hO := Lib.hid (ownN A c xs wr (HO.out.inn HL.out) (by omega) (decV 0 s) HV.out)
      clear HD hT HV HO HL
      go_wp2_with fail
      refine hO.out.mono ?_
      rintro e W2 ⟨A2, c2, rfl, q1, q2⟩
      have HI := Lib.hid q1
      replace HB := Lib.hid (HB.out.trans (q2.mono HB.out.size))
      clear hO q1 q2
      go_wp2
      go_ret2
      exact .inl ⟨HR.out, A2, c2, rfl, HI.out, HB.out⟩
end Go.Proofs.YtidgpkccjcddgaaGreatDoor.F
