/- The walks of package whole. An int is its sign's flag and its limbs; each answer is the canonical form of its value. -/
import Derived.Test.YtidgpkccjcddgaaGreatDoorGc
set_option linter.unusedVariables false
set_option linter.unusedSimpArgs false
namespace Go.Proofs.YtidgpkccjcddgaaGreatDoor.F
open Go.RowKit Go.Shelf
theorem Rn.far {w : World} {A : Option Addr} {xs : List Int} {g : Nat} {cs : List Value} (h : Rn w A xs) (ho : Own w g cs) (hn : ∀ x, Value.int .u32 x ∉ cs) (i : Nat) (v : Value) : Rn (w.setCell ⟨g, i, none⟩ v) A xs := by
 intro k hk
 obtain ⟨ad, vs, e, hC, hc⟩ := h k hk
 refine ⟨ad, vs, e, hC, fun j u hu => ?_⟩
 have h1 := hc j u hu
 have hvs : vs = [.int .u32 xs[k]] := hC
 have hu' : u = .int .u32 xs[k] := by
  rw [hvs] at hu
  cases j with
  | zero => simpa using hu.symm
  | succ j => simp at hu
 subst hu'
 have hb : (ad.add (k * 1 + j)).block ≠ g := by
  intro hbe
  obtain ⟨t, ht⟩ := ho
  rw [show (Knd.int IntKind.u32).sz = 1 from rfl] at h1
  simp only [World.cell?, hbe, ht] at h1
  have hm := List.mem_of_getElem? (by simpa using (by simpa using h1 : _ ∧ _).2 : cs[(ad.add (k * 1 + j)).off]? = some (Value.int .u32 xs[k]))
  exact hn _ hm
 rw [World.cell?_of_block (Below.heap_setCell w _ v _ hb)]
 exact h1
theorem post_own {P : Program} {fn : Func} {R : Ending → World → Prop} {a : Act} {w : World} {p : Tmp} {ty : TypeId} {g : Nat} {vs : List Value} {d : TypeDesc} (ho : Own w g vs) (h : fn.results = #[.cell p ty]) (h0 : a.defers = [])
 (hp : a.tmps.getD p undef = .pointer (some ⟨g, 0, none⟩)) (hu : P.underlying ty = some d) (hd : (match d with | .struct _ | .array _ _ => true | _ => false) = true) (hi : (P.info? ty).map (·.size) = some vs.length)
 (hR : R (.returned (.agg vs.toArray)) w) : bodyPost P fn R .ret a w := by
 obtain ⟨t, ho⟩ := ho
 exact bodyPost_ret (results_cell_row h _ _ g t vs.toArray (0, 0) d hp ho hu hd (by simpa using hi)) h0 hR
set_option maxHeartbeats 1000000 in
theorem whole_core (A : Option Addr) (c : Nat) (xs : List Int) (w : World) (h : Rn w A xs) (hl : Lim xs) (hc : xs.length ≤ c) (hm : xs.length ≤ 1099511627776) :
 Calls Tryz.prog 200 #[.slice A xs.length c] w fun e w' => (∃ A', e = .returned (.slice A' (nf xs).length (nf xs).length)) ∧ Below w.heap.size w w' := by
 have HX := Lib.hid h
 have HL := Lib.hid hl
 clear h hl
 go_enter Tryz.func200, Tryz.ntmps200
 go_wp2
 go_loopg [3] xs.length (fun gg s3 wr => ∃ k : Nat, k ≤ xs.length ∧ k ≤ gg ∧ s3 = .int .i64 k ∧ Hid (Below w.heap.size w wr) ∧ Hid (∀ i (hi : i < xs.length), k ≤ i → xs[i] = 0))
 case atStart => exact ⟨xs.length, by omega, by omega, rfl, Below.refl _ w, fun i hi hk => by omega⟩
 case round =>
  obtain ⟨k, hk, hg, rfl, BW, A1⟩ := hrel
  by_cases h0 : 0 < k
  · obtain ⟨j, rfl⟩ : ∃ j, k = j + 1 := ⟨k - 1, by omega⟩
    obtain ⟨ad, rfl, hcell⟩ := Knd.at_int HX.out j (by omega)
    have hcell' := cell_below BW.out hcell
    clear hcell
    by_cases hz : xs[j] = 0
    · have HZ := Lib.hid hz
      rw [hz] at hcell'
      clear hz
      go_wp2
      go_roundg j
      case measure => omega
      case rel =>
       refine ⟨j, by omega, by omega, by go_num, by first | exact BW | exact below_drewN BW _, (show Hid _ from fun i hi hj => ?_)⟩
       by_cases e : i = j
       · subst e; exact HZ.out
       · exact A1.out i hi (by omega)
    · have HT := Lib.hid (take_dg HL.out hk A1.out (fun _ => hz))
      have hz' : (xs[j] == 0) = false := by simpa using hz
      clear hz
      generalize xs[j] = y at hcell' hz'
      go_wp2
      go_ret
      have e : (nf xs).length = j + 1 := by rw [nf, ← HT.out, List.length_take]; omega
      rw [e]
      exact ⟨⟨_, rfl⟩, BW.out⟩
  · obtain rfl : k = 0 := by omega
    have HT := Lib.hid (take_dg HL.out hk A1.out (fun h => absurd h (Nat.lt_irrefl 0)))
    go_wp2
    go_ret
    have e : (nf xs).length = 0 := by rw [nf, ← HT.out]; rfl
    rw [e]
    exact ⟨⟨_, rfl⟩, BW.out⟩
def iv (s : Bool) (x : Int) : Int := if s then -x else x
def ToldI (w : World) (n : Int) (e : Ending) (w' : World) : Prop :=
 ∃ A c, e = .returned (.agg #[.bool (decide (n < 0)), .slice A (dg n.natAbs).length c]) ∧ (dg n.natAbs).length ≤ c ∧ Rn w' A (dg n.natAbs) ∧ Below w.heap.size w w'
def pr (ss : List Int) : Int := ss.foldl (· * ·) 1
theorem pr_take {ss : List Int} {k : Nat} (h : k < ss.length) : pr (ss.take (k + 1)) = pr (ss.take k) * ss[k] := by
 rw [List.take_succ_eq_append_getElem h, pr, List.foldl_append]; rfl
def Sg (ss : List Int) : Prop := ∀ i (h : i < ss.length), -1 ≤ ss[i] ∧ ss[i] ≤ 1
theorem pr_bound {ss : List Int} (h : Sg ss) : ∀ k, k ≤ ss.length → -1 ≤ pr (ss.take k) ∧ pr (ss.take k) ≤ 1 := by
 intro k
 induction k with
 | zero => intro _; simp [pr]
 | succ k ih =>
  intro hk
  have h1 := ih (by omega)
  have h2 := h k (by omega)
  rw [pr_take (by omega)]
  generalize pr (ss.take k) = p at h1
  generalize ss[k]'(by omega) = s at h2
  have hp : p = -1 ∨ p = 0 ∨ p = 1 := by omega
  rcases hp with rfl | rfl | rfl <;> omega
set_option maxHeartbeats 1000000 in
theorem whole_signed (A : Option Addr) (c : Nat) (xs : List Int) (S : Option Addr) (d : Nat) (ss : List Int) (w : World) (h : Rn w A xs) (hl : Lim xs) (hc : xs.length ≤ c) (hm : xs.length ≤ 1099511627776)
 (k : (Knd.int .i64).Row w S ss) (kd : ss.length ≤ d) (km : ss.length ≤ 1000) (ks : Sg ss) (m : Int) (hm' : m = if pr ss < 0 then - V xs else V xs) :
 Calls Tryz.prog 128 #[.slice A xs.length c, .slice S ss.length d] w fun e w' => ToldI w m e w' := by
 have HN := Lib.hid (nat_Norm A c xs (w.alloc (.cells #[.bool false, .slice none 0 0] 41)) (h.below ((Below.refl _ w).alloc (Nat.le_refl _) _)) hl hc hm)
 have HS := Lib.hid k
 have hv := V_nonneg hl
 have hnf : nf xs = dg (V xs).toNat := rfl
 have HM := Lib.hid hm'
 clear hm'
 have hlen := nf_len hl
 have KS := Lib.hid ks
 clear h hl hc k ks
 have hl0 : (nf xs).length = 0 ↔ V xs = 0 := by rw [hnf, List.length_eq_zero_iff, dg_eq_nil]; omega
 replace hnf := Lib.hid hnf
 generalize V xs = v at *
 generalize nf xs = us at *
 go_enter Tryz.func128, Tryz.ntmps128
 go_wp2_with fail
 refine HN.out.mono ?_
 clear HN
 rintro e w1 ⟨A1, c1, rfl, h1, h2, h3⟩
 have HR := Lib.hid h2
 have HB := Lib.hid (((Below.refl _ w).alloc (Nat.le_refl _) _).trans (h3.mono (by simp)))
 clear h2
 have HO := Lib.hid ((Own.mk (w := w) [.bool false, .slice none 0 0] 41).below h3 (by simp))
 have HS1 := Lib.hid (HS.out.below HB.out)
 clear h3 HS
 have hpr := Lib.hid (pr_bound KS.out)
 go_wp2
 go_loopg [5, 12] ss.length (fun gg s5 s12 wr => ∃ (k : Nat) (p : Int), k + gg = ss.length ∧ s5 = .int .i64 p ∧ s12 = .int .i64 k ∧ -1 ≤ p ∧ p ≤ 1 ∧ Hid (p = pr (ss.take k)) ∧ ∃ n, wr = w1.drewN n)
 case atStart => exact ⟨0, 1, by omega, rfl, rfl, by omega, by omega, rfl, 0, rfl⟩
 case round =>
  obtain ⟨k, p, hg, rfl, rfl, hp0, hp1, HP, n, rfl⟩ := hrel
  by_cases hk : k < ss.length
  · obtain ⟨ad, rfl, hcell⟩ := Knd.at_int HS1.out k hk
    have hst := KS.out k hk
    have HQ := Lib.hid (pr_take hk)
    generalize ss[k]'hk = s at hcell hst HQ
    have hq : -1 ≤ p * s ∧ p * s ≤ 1 := by
     have hp : p = -1 ∨ p = 0 ∨ p = 1 := by omega
     rcases hp with rfl | rfl | rfl <;> omega
    have HQ' : Hid (p * s = pr (ss.take (k + 1))) := by rw [HQ.out, HP.out]; rfl
    obtain ⟨q, hqe⟩ : ∃ q, q = p * s := ⟨_, rfl⟩
    rw [← hqe] at hq HQ'
    have hw : IntKind.i64.wrap (p * s) = q := by rw [← hqe, i64w (by omega) (by omega)]
    clear HQ hqe
    go_wp2
    go_roundg (ss.length - (k + 1))
    case measure => omega
    case rel => exact ⟨k + 1, q, by omega, rfl, by go_num, hq.1, hq.2, HQ', _, rfl⟩
  · obtain rfl : k = ss.length := by omega
    rw [List.take_length] at HP
    have HO2 : Hid (Own (w1.drewN n) w.heap.size [.bool false, .slice none 0 0]) := HO.out.drewN n
    have HR2 : Hid (Rn (w1.drewN n) A1 us) := Knd.Row.below (below_drewN (Below.refl _ _) n) HR.out
    have HB2 : Hid (Below w.heap.size w (w1.drewN n)) := below_drewN HB.out n
    generalize w1.drewN n = w2 at *
    clear HO HR HB HS1 hpr KS
    have hc0 := HO2.out.cell 0 (by simp)
    have hc1 := HO2.out.cell 1 (by simp)
    have hf0 := HO2.out.frozen 0
    have hf1 := HO2.out.frozen 1
    have HX : Hid ((-1 < p ∨ us.length = 0 → m = v) ∧ (p < 0 → m = -v)) := by
     have h8 := HM.out
     have h9 := HP.out
     constructor
     · intro h7
       rw [h8, ← h9]
       split <;> omega
     · intro h7
       rw [h8, ← h9, if_pos h7]
    clear HM HP
    obtain ⟨b, hb⟩ : ∃ b : Bool, b = (decide (p < 0) && decide (0 < us.length)) := ⟨_, rfl⟩
    have fin : ∀ W, W = (w2.setCell ⟨w.heap.size, 0, none⟩ (.bool b)).setCell ⟨w.heap.size, 1, none⟩ (.slice A1 us.length c1) → ToldI w m (.returned (.agg #[.bool b, .slice A1 us.length c1])) W ∧ Own W w.heap.size [.bool b, .slice A1 us.length c1] := by
     rintro _ rfl
     have hmb : decide (m < 0) = b ∧ dg m.natAbs = us := by
      rw [hnf.out]
      by_cases hp : p < 0
      · have h5 := HX.out.2 hp
        by_cases hu : 0 < us.length
        · have hb' : b = true := by rw [hb]; simp [hp, hu]
          have hv0 : v ≠ 0 := by omega
          rw [hb', h5]
          exact ⟨by simp; omega, by congr 1; omega⟩
        · have hb' : b = false := by rw [hb]; simp [hu]
          have hv0 : v = 0 := by omega
          rw [hb', h5]
          exact ⟨by simp; omega, by congr 1; omega⟩
      · have h5 := HX.out.1 (Or.inl (by omega))
        have hb' : b = false := by rw [hb]; simp [hp]
        rw [hb', h5]
        exact ⟨by simp; omega, by congr 1; omega⟩
     refine ⟨⟨A1, c1, ?_, ?_, ?_, ?_⟩, (HO2.out.set 0 _).set 1 _⟩
     · rw [hmb.1, hmb.2]
     · rw [hmb.2]; exact h1
     · rw [hmb.2]
       exact (HR2.out.far HO2.out (by simp) 0 _).far (HO2.out.set 0 _) (by simp) 1 _
     · exact (HB2.out.setCell (Nat.le_refl _) _).setCell (Nat.le_refl _) _
    have FIN := Lib.hid fin
    clear fin
    by_cases hp : p < 0
    · by_cases hu : 0 < us.length
      · obtain rfl : b = true := by rw [hb]; simp [hp, hu]
        clear hb HX
        go_wp2
        obtain ⟨f1, f2⟩ := FIN.out _ rfl
        exact post_own f2 rfl rfl rfl Tryz.underlying41 rfl (by kernel_rfl) f1
      · obtain rfl : b = false := by rw [hb]; simp [hu]
        clear hb HX
        obtain rfl : us = [] := List.length_eq_zero_iff.1 (by omega)
        go_wp2
        obtain ⟨f1, f2⟩ := FIN.out _ rfl
        exact post_own f2 rfl rfl rfl Tryz.underlying41 rfl (by kernel_rfl) f1
    · obtain rfl : b = false := by rw [hb]; simp [hp]
      clear hb HX
      go_wp2
      obtain ⟨f1, f2⟩ := FIN.out _ rfl
      exact post_own f2 rfl rfl rfl Tryz.underlying41 rfl (by kernel_rfl) f1
theorem whole_Sign (s : Bool) (A : Option Addr) (c : Nat) (xs : List Int) (w : World) (h : Rn w A xs) (hl : Lim xs) (hc : xs.length ≤ c) (hm : xs.length ≤ 1099511627776) :
 Calls Tryz.prog 127 #[.agg #[.bool s, .slice A xs.length c]] w fun e w' => e = .returned (.int .i64 (sgn (iv s (V xs)))) ∧ Below w.heap.size w w' := by
 have hb0 : Below w.heap.size w (w.alloc (.cells #[.bool s, .slice A xs.length c] 41)) := (Below.refl _ w).alloc (Nat.le_refl _) _
 have HC := Lib.hid (whole_core A c xs _ (h.below hb0) hl hc hm)
 have HB0 := Lib.hid hb0
 have HO := Lib.hid (Own.mk (w := w) [.bool s, .slice A xs.length c] 41)
 have hv := V_nonneg hl
 have hl0 : (nf xs).length = 0 ↔ V xs = 0 := by rw [nf, List.length_eq_zero_iff, dg_eq_nil]; omega
 have hlen := nf_len hl
 clear h hl hc
 generalize V xs = v at *
 generalize nf xs = us at *
 obtain ⟨r, hr⟩ : ∃ r, r = sgn (iv s v) := ⟨_, rfl⟩
 have HRR := Lib.hid hr
 rw [← hr]
 clear hr
 go_enter Tryz.func127, Tryz.ntmps127
 go_wp2_with fail
 refine HC.out.mono ?_
 clear HC
 rintro e w1 ⟨⟨A1, rfl⟩, h3⟩
 have HB := Lib.hid (HB0.out.trans (h3.mono HB0.out.size))
 have HO1 := HO.out.below h3 (by simp)
 have hc0 := HO1.cell 0 (by simp)
 clear HO HO1 h3 HB0
 by_cases hu : us.length = 0
 · obtain rfl : us = [] := List.length_eq_zero_iff.1 hu
   have hr' : r = 0 := by rw [HRR.out, hl0.1 rfl]; cases s <;> rfl
   subst hr'
   clear HRR hl0 hu
   go_wp2
   go_ret
   exact ⟨rfl, HB.out⟩
 · have hu' : decide (us.length = 0) = false := by simpa using hu
   have hu2 : ((us.length : Int) == 0) = false := by simpa using hu
   have hv0 : 0 < v := by omega
   cases s with
   | true =>
    have hr' : r = -1 := by rw [HRR.out]; simp [iv, sgn]; omega
    subst hr'
    clear HRR hl0
    go_wp2
    go_ret
    exact ⟨rfl, HB.out⟩
   | false =>
    have hr' : r = 1 := by rw [HRR.out]; simp [iv, sgn]; omega
    subst hr'
    clear HRR hl0
    go_wp2
    go_ret
    exact ⟨rfl, HB.out⟩
end Go.Proofs.YtidgpkccjcddgaaGreatDoor.F
