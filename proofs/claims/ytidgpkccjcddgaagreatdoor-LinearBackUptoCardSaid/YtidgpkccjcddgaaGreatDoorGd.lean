/- The walks of package whole. An int is its sign's flag and its limbs; each answer is the canonical form of its value. -/
import Derived.Test.YtidgpkccjcddgaaGreatDoorGc
import Derived.OrdersHeld
import Derived.Deep.RegionHeld3
import Derived.Laws.BitsLemmas
import Derived.RowKit
import Derived.BigRegion
set_option linter.unusedVariables false
set_option linter.unusedSimpArgs false
namespace Go.Proofs.YtidgpkccjcddgaaGreatDoor.F
open Go.RowKit Go.Shelf

/-- a row of limbs stands elsewhere than in a block without limbs -/
theorem Rn.far {w : World} {A : Option Addr} {xs : List Int} {g : Nat} {cs : List Value} (h : Rn w A xs) (ho : Own w g cs) (hn : ∀ x, Value.int .u32 x ∉ cs) (i : Nat) (v : Value) : Rn (w.setCell ⟨g, i, none⟩ v) A xs := by
  intro k hk
  obtain ⟨ad, vs, e, hC, hc⟩ := h k hk
  refine ⟨ad, vs, e, hC, fun j u hu => ?_⟩
  have h1 := hc j u hu
  have hvs : vs = [.int .u32 xs[k]] := hC
  have hu' : u = .int .u32 xs[k] := by
    rw [hvs] at hu
    cases j with
    | zero => simpa using hu.symm
    | succ j => simp at hu
  subst hu'
  have hb : (ad.add (k * 1 + j)).block ≠ g := by
    intro hbe
    obtain ⟨t, ht⟩ := ho
    rw [show (Knd.int IntKind.u32).sz = 1 from rfl] at h1
    simp only [World.cell?, hbe, ht] at h1
    have hm := List.mem_of_getElem? (by simpa using (by simpa using h1 : _ ∧ _).2 : cs[(ad.add (k * 1 + j)).off]? = some (Value.int .u32 xs[k]))
    exact hn _ hm
  rw [World.cell?_of_block (Below.heap_setCell w _ v _ hb)]
  exact h1

/-- the end of a call whose only result lies in cells -/
theorem post_own {P : Program} {fn : Func} {R : Ending → World → Prop} {a : Act} {w : World} {p : Tmp} {ty : TypeId} {g : Nat} {vs : List Value} {d : TypeDesc} (ho : Own w g vs) (h : fn.results = #[.cell p ty]) (h0 : a.defers = [])
    (hp : a.tmps.getD p undef = .pointer (some ⟨g, 0, none⟩)) (hu : P.underlying ty = some d) (hd : (match d with | .struct _ | .array _ _ => true | _ => false) = true) (hi : (P.info? ty).map (·.size) = some vs.length)
    (hR : R (.returned (.agg vs.toArray)) w) : bodyPost P fn R .ret a w := by
  obtain ⟨t, ho⟩ := ho
  exact bodyPost_ret (results_cell_row h _ _ g t vs.toArray (0, 0) d hp ho hu hd (by simpa using hi)) h0 hR

set_option maxHeartbeats 1000000 in
theorem whole_core (A : Option Addr) (c : Nat) (xs : List Int) (w : World) (h : Rn w A xs) (hl : Lim xs) (hc : xs.length ≤ c) (hm : xs.length ≤ 1099511627776) :
    Calls Tryz.prog 200 #[.slice A xs.length c] w fun e w' => (∃ A', e = .returned (.slice A' (nf xs).length (nf xs).length)) ∧ Below w.heap.size w w' := by
  have HX := Lib.hid h
  have HL := Lib.hid hl
  clear h hl
  go_enter Tryz.func200, Tryz.ntmps200
  go_wp2
  go_loopg [3] xs.length (fun gg s3 wr => ∃ k : Nat, k ≤ xs.length ∧ k ≤ gg ∧ s3 = .int .i64 k ∧ Hid (Below w.heap.size w wr) ∧ Hid (∀ i (hi : i < xs.length), k ≤ i → xs[i] = 0))
  case atStart => exact ⟨xs.length, by omega, by omega, rfl, Below.refl _ w, fun i hi hk => by omega⟩
  case round =>
    obtain ⟨k, hk, hg, rfl, BW, A1⟩ := hrel
    by_cases h0 : 0 < k
    · obtain ⟨j, rfl⟩ : ∃ j, k = j + 1 := ⟨k - 1, by omega⟩
      obtain ⟨ad, rfl, hcell⟩ := Knd.at_int HX.out j (by omega)
      have hcell' := cell_below BW.out hcell
      clear hcell
      by_cases hz : xs[j] = 0
      · have HZ := Lib.hid hz
        rw [hz] at hcell'
        clear hz
        go_wp2
        go_roundg j
        case measure => omega
        case rel =>
          refine ⟨j, by omega, by omega, by go_num, by first | exact BW | exact below_drewN BW _, (show Hid _ from fun i hi hj => ?_)⟩
          by_cases e : i = j
          · subst e; exact HZ.out
          · exact A1.out i hi (by omega)
      · have HT := Lib.hid (take_dg HL.out hk A1.out (fun _ => hz))
        have hz' : (xs[j] == 0) = false := by simpa using hz
        clear hz
        generalize xs[j] = y at hcell' hz'
        go_wp2
        go_ret
        have e : (nf xs).length = j + 1 := by rw [nf, ← HT.out, List.length_take]; omega
        rw [e]
        exact ⟨⟨_, rfl⟩, BW.out⟩
    · obtain rfl : k = 0 := by omega
      have HT := Lib.hid (take_dg HL.out hk A1.out (fun h => absurd h (Nat.lt_irrefl 0)))
      go_wp2
      go_ret
      have e : (nf xs).length = 0 := by rw [nf, ← HT.out]; rfl
      rw [e]
      exact ⟨⟨_, rfl⟩, BW.out⟩

/-- an int's value -/
def iv (s : Bool) (x : Int) : Int := if s then -x else x
/-- an answer that is an int in canonical form -/
def ToldI (w : World) (n : Int) (e : Ending) (w' : World) : Prop :=
  ∃ A c, e = .returned (.agg #[.bool (decide (n < 0)), .slice A (dg n.natAbs).length c]) ∧ (dg n.natAbs).length ≤ c ∧ Rn w' A (dg n.natAbs) ∧ Below w.heap.size w w'
/-- the product of signs -/
def pr (ss : List Int) : Int := ss.foldl (· * ·) 1
theorem pr_take {ss : List Int} {k : Nat} (h : k < ss.length) : pr (ss.take (k + 1)) = pr (ss.take k) * ss[k] := by
  rw [List.take_succ_eq_append_getElem h, pr, List.foldl_append]; rfl
def Sg (ss : List Int) : Prop := ∀ i (h : i < ss.length), -1 ≤ ss[i] ∧ ss[i] ≤ 1
theorem pr_bound {ss : List Int} (h : Sg ss) : ∀ k, k ≤ ss.length → -1 ≤ pr (ss.take k) ∧ pr (ss.take k) ≤ 1 := by
  intro k
  induction k with
  | zero => intro _; simp [pr]
  | succ k ih =>
    intro hk
    have h1 := ih (by omega)
    have h2 := h k (by omega)
    rw [pr_take (by omega)]
    generalize pr (ss.take k) = p at h1
    generalize ss[k]'(by omega) = s at h2
    have hp : p = -1 ∨ p = 0 ∨ p = 1 := by omega
    rcases hp with rfl | rfl | rfl <;> omega

set_option maxHeartbeats 1000000 in
theorem whole_signed (A : Option Addr) (c : Nat) (xs : List Int) (S : Option Addr) (d : Nat) (ss : List Int) (w : World) (h : Rn w A xs) (hl : Lim xs) (hc : xs.length ≤ c) (hm : xs.length ≤ 1099511627776)
    (k : (Knd.int .i64).Row w S ss) (kd : ss.length ≤ d) (km : ss.length ≤ 1000) (ks : Sg ss) (m : Int) (hm' : m = if pr ss < 0 then - V xs else V xs) :
    Calls Tryz.prog 128 #[.slice A xs.length c, .slice S ss.length d] w fun e w' => ToldI w m e w' := by
  have HN := Lib.hid (nat_Norm A c xs (w.alloc (.cells #[.bool false, .slice none 0 0] 41)) (h.below ((Below.refl _ w).alloc (Nat.le_refl _) _)) hl hc hm)
  have HS := Lib.hid k
  have hv := V_nonneg hl
  have hnf : nf xs = dg (V xs).toNat := rfl
  have HM := Lib.hid hm'
  clear hm'
  have hlen := nf_len hl
  have KS := Lib.hid ks
  clear h hl hc k ks
  have hl0 : (nf xs).length = 0 ↔ V xs = 0 := by rw [hnf, List.length_eq_zero_iff, dg_eq_nil]; omega
  replace hnf := Lib.hid hnf
  generalize V xs = v at *
  generalize nf xs = us at *
  go_enter Tryz.func128, Tryz.ntmps128
  go_wp2_with fail
  refine HN.out.mono ?_
  clear HN
  rintro e w1 ⟨A1, c1, rfl, h1, h2, h3⟩
  have HR := Lib.hid h2
  have HB := Lib.hid (((Below.refl _ w).alloc (Nat.le_refl _) _).trans (h3.mono (by simp)))
  clear h2
  have HO := Lib.hid ((Own.mk (w := w) [.bool false, .slice none 0 0] 41).below h3 (by simp))
  have HS1 := Lib.hid (HS.out.below HB.out)
  clear h3 HS
  have hpr := Lib.hid (pr_bound KS.out)
  go_wp2
  go_loopg [5, 12] ss.length (fun gg s5 s12 wr => ∃ (k : Nat) (p : Int), k + gg = ss.length ∧ s5 = .int .i64 p ∧ s12 = .int .i64 k ∧ -1 ≤ p ∧ p ≤ 1 ∧ Hid (p = pr (ss.take k)) ∧ ∃ n, wr = w1.drewN n)
  case atStart => exact ⟨0, 1, by omega, rfl, rfl, by omega, by omega, rfl, 0, rfl⟩
  case round =>
    obtain ⟨k, p, hg, rfl, rfl, hp0, hp1, HP, n, rfl⟩ := hrel
    by_cases hk : k < ss.length
    · obtain ⟨ad, rfl, hcell⟩ := Knd.at_int HS1.out k hk
      have hst := KS.out k hk
      have HQ := Lib.hid (pr_take hk)
      generalize ss[k]'hk = s at hcell hst HQ
      have hq : -1 ≤ p * s ∧ p * s ≤ 1 := by
        have hp : p = -1 ∨ p = 0 ∨ p = 1 := by omega
        rcases hp with rfl | rfl | rfl <;> omega
      have HQ' : Hid (p * s = pr (ss.take (k + 1))) := by rw [HQ.out, HP.out]; rfl
      obtain ⟨q, hqe⟩ : ∃ q, q = p * s := ⟨_, rfl⟩
      rw [← hqe] at hq HQ'
      have hw : IntKind.i64.wrap (p * s) = q := by rw [← hqe, i64w (by omega) (by omega)]
      clear HQ hqe
      go_wp2
      go_roundg (ss.length - (k + 1))
      case measure => omega
      case rel => exact ⟨k + 1, q, by omega, rfl, by go_num, hq.1, hq.2, HQ', _, rfl⟩
    · obtain rfl : k = ss.length := by omega
      rw [List.take_length] at HP
      have HO2 : Hid (Own (w1.drewN n) w.heap.size [.bool false, .slice none 0 0]) := HO.out.drewN n
      have HR2 : Hid (Rn (w1.drewN n) A1 us) := Knd.Row.below (below_drewN (Below.refl _ _) n) HR.out
      have HB2 : Hid (Below w.heap.size w (w1.drewN n)) := below_drewN HB.out n
      generalize w1.drewN n = w2 at *
      clear HO HR HB HS1 hpr KS
      have hc0 := HO2.out.cell 0 (by simp)
      have hc1 := HO2.out.cell 1 (by simp)
      have hf0 := HO2.out.frozen 0
      have hf1 := HO2.out.frozen 1
      have HX : Hid ((-1 < p ∨ us.length = 0 → m = v) ∧ (p < 0 → m = -v)) := by
        have h8 := HM.out
        have h9 := HP.out
        constructor
        · intro h7
          rw [h8, ← h9]
          split <;> omega
        · intro h7
          rw [h8, ← h9, if_pos h7]
      clear HM HP
      obtain ⟨b, hb⟩ : ∃ b : Bool, b = (decide (p < 0) && decide (0 < us.length)) := ⟨_, rfl⟩
      have fin : ∀ W, W = (w2.setCell ⟨w.heap.size, 0, none⟩ (.bool b)).setCell ⟨w.heap.size, 1, none⟩ (.slice A1 us.length c1) → ToldI w m (.returned (.agg #[.bool b, .slice A1 us.length c1])) W ∧ Own W w.heap.size [.bool b, .slice A1 us.length c1] := by
        rintro _ rfl
        have hmb : decide (m < 0) = b ∧ dg m.natAbs = us := by
          rw [hnf.out]
          by_cases hp : p < 0
          · have h5 := HX.out.2 hp
            by_cases hu : 0 < us.length
            · have hb' : b = true := by rw [hb]; simp [hp, hu]
              have hv0 : v ≠ 0 := by omega
              rw [hb', h5]
              exact ⟨by simp; omega, by congr 1; omega⟩
            · have hb' : b = false := by rw [hb]; simp [hu]
              have hv0 : v = 0 := by omega
              rw [hb', h5]
              exact ⟨by simp; omega, by congr 1; omega⟩
          · have h5 := HX.out.1 (Or.inl (by omega))
            have hb' : b = false := by rw [hb]; simp [hp]
            rw [hb', h5]
            exact ⟨by simp; omega, by congr 1; omega⟩
        refine ⟨⟨A1, c1, ?_, ?_, ?_, ?_⟩, (HO2.out.set 0 _).set 1 _⟩
        · rw [hmb.1, hmb.2]
        · rw [hmb.2]; exact h1
        · rw [hmb.2]
          exact (HR2.out.far HO2.out (by simp) 0 _).far (HO2.out.set 0 _) (by simp) 1 _
        · exact (HB2.out.setCell (Nat.le_refl _) _).setCell (Nat.le_refl _) _
      have FIN := Lib.hid fin
      clear fin
      by_cases hp : p < 0
      · by_cases hu : 0 < us.length
        · obtain rfl : b = true := by rw [hb]; simp [hp, hu]
          clear hb HX
          go_wp2
          obtain ⟨f1, f2⟩ := FIN.out _ rfl
          exact post_own f2 rfl rfl rfl Tryz.underlying41 rfl (by kernel_rfl) f1
        · obtain rfl : b = false := by rw [hb]; simp [hu]
          clear hb HX
          obtain rfl : us = [] := List.length_eq_zero_iff.1 (by omega)
          go_wp2
          obtain ⟨f1, f2⟩ := FIN.out _ rfl
          exact post_own f2 rfl rfl rfl Tryz.underlying41 rfl (by kernel_rfl) f1
      · obtain rfl : b = false := by rw [hb]; simp [hp]
        clear hb HX
        go_wp2
        obtain ⟨f1, f2⟩ := FIN.out _ rfl
        exact post_own f2 rfl rfl rfl Tryz.underlying41 rfl (by kernel_rfl) f1

/-- the sign of an int -/
theorem whole_Sign (s : Bool) (A : Option Addr) (c : Nat) (xs : List Int) (w : World) (h : Rn w A xs) (hl : Lim xs) (hc : xs.length ≤ c) (hm : xs.length ≤ 1099511627776) :
    Calls Tryz.prog 127 #[.agg #[.bool s, .slice A xs.length c]] w fun e w' => e = .returned (.int .i64 (sgn (iv s (V xs)))) ∧ Below w.heap.size w w' := by
  have hb0 : Below w.heap.size w (w.alloc (.cells #[.bool s, .slice A xs.length c] 41)) := (Below.refl _ w).alloc (Nat.le_refl _) _
  have HC := Lib.hid (whole_core A c xs _ (h.below hb0) hl hc hm)
  have HB0 := Lib.hid hb0
  have HO := Lib.hid (Own.mk (w := w) [.bool s, .slice A xs.length c] 41)
  have hv := V_nonneg hl
  have hl0 : (nf xs).length = 0 ↔ V xs = 0 := by rw [nf, List.length_eq_zero_iff, dg_eq_nil]; omega
  have hlen := nf_len hl
  clear h hl hc
  generalize V xs = v at *
  generalize nf xs = us at *
  obtain ⟨r, hr⟩ : ∃ r, r = sgn (iv s v) := ⟨_, rfl⟩
  have HRR := Lib.hid hr
  rw [← hr]
  clear hr
  go_enter Tryz.func127, Tryz.ntmps127
  go_wp2_with fail
  refine HC.out.mono ?_
  clear HC
  rintro e w1 ⟨⟨A1, rfl⟩, h3⟩
  have HB := Lib.hid (HB0.out.trans (h3.mono HB0.out.size))
  have HO1 := HO.out.below h3 (by simp)
  have hc0 := HO1.cell 0 (by simp)
  clear HO HO1 h3 HB0
  by_cases hu : us.length = 0
  · obtain rfl : us = [] := List.length_eq_zero_iff.1 hu
    have hr' : r = 0 := by rw [HRR.out, hl0.1 rfl]; cases s <;> rfl
    subst hr'
    clear HRR hl0 hu
    go_wp2
    go_ret
    exact ⟨rfl, HB.out⟩
  · have hu' : decide (us.length = 0) = false := by simpa using hu
    have hu2 : ((us.length : Int) == 0) = false := by simpa using hu
    have hv0 : 0 < v := by omega
    cases s with
    | true =>
      have hr' : r = -1 := by rw [HRR.out]; simp [iv, sgn]; omega
      subst hr'
      clear HRR hl0
      go_wp2
      go_ret
      exact ⟨rfl, HB.out⟩
    | false =>
      have hr' : r = 1 := by rw [HRR.out]; simp [iv, sgn]; omega
      subst hr'
      clear HRR hl0
      go_wp2
      go_ret
      exact ⟨rfl, HB.out⟩
end Go.Proofs.YtidgpkccjcddgaaGreatDoor.F
-- The second file that print.sh writes (its own words), with the name of the namespace turned.
/-
  PRINTED WORDS, second file: A REGION THAT DRAWS ITS ORDER, WALKED BY HAND, where its last store writes what its own loads read ('x.f = append(x.f, f(i))'). Plain theorems; no macro, no elab. A claim may hold it (turn the namespace's name).
  A load may be taken first in every world that meets S; behind the operations of ds nothing is shown; sound because each of ds waits for what is taken (Region.lastB). The kernel checks it.
  By an AI agent of Go's test side, Mon Nov 16 2026. No person has read it.
-/
namespace Go.Proofs.YtidgpkccjcddgaaGreatDoorW.PrintLast

section
variable {P : Program} {ops : Array Oper} {Q : Exit → Act → World → Prop} {md : Region.Mode} {S : World → Prop} {ds : List Nat}

/-- Operation d waits for operation i, by a chain of at most 'fuel' edges. -/
def Region.reachB (md : Region.Mode) (ops : Array Oper) (i : Nat) : Nat → Nat → Bool
  | 0, _ => false
  | fuel + 1, d => match ops[d]? with
    | some o => o.after.any fun e => Region.binds md e && (e.on == i || Region.reachB md ops i fuel e.on)
    | none => false

/-- What is listed is closed under the edges. -/
def Region.closedB (md : Region.Mode) (ops : Array Oper) (listed : Array Bool) : Bool :=
  (List.range ops.size).all fun j => !listed.getD j false || match ops[j]? with
    | some o => o.after.all fun e => !Region.binds md e || listed.getD e.on false
    | none => true

/-- Each of ds that has not come up yet waits for number i. -/
def Region.lastB (md : Region.Mode) (ops : Array Oper) (listed : Array Bool) (ds : List Nat) (i : Nat) : Bool :=
  ds.all fun d => listed.getD d true || Region.reachB md ops i ops.size d

def ListedClosed (md : Region.Mode) (ops : Array Oper) (listed : Array Bool) : Prop :=
  ∀ j oj, ops[j]? = some oj → listed.getD j false = true → ∀ e ∈ oj.after, Region.binds md e = true → listed.getD e.on false = true

theorem Region.closedB_spec {listed : Array Bool} (h : Region.closedB md ops listed = true) : ListedClosed md ops listed := by
  intro j oj hj hl e he hb
  have hlt : j < ops.size := (Array.getElem?_eq_some_iff.1 hj).1
  have h1 := List.all_eq_true.1 h j (List.mem_range.2 hlt)
  simp only [hl, hj, Bool.not_true, Bool.false_or] at h1
  have h2 := Array.all_eq_true_iff_forall_mem.1 h1 e he
  simpa [hb] using h2

theorem ListedClosed.set {listed : Array Bool} {i : Nat} (h : ListedClosed md ops listed) (hi : i ∈ Region.ready md ops listed) : ListedClosed md ops (listed.setIfInBounds i true) := by
  obtain ⟨_, oi, hoi, hall⟩ := mem_ready.1 hi
  intro j oj hj hl e he hb
  by_cases hij : i = j
  · subst hij
    have : oj = oi := Option.some.inj (hj.symm.trans hoi)
    subst this
    exact getD_set_true (hall e he hb)
  · rw [getD_set_ne false hij] at hl
    exact getD_set_true (h j oj hj hl e he hb)

theorem Region.reach_listed {listed : Array Bool} {i : Nat} (hc : ListedClosed md ops listed) : ∀ (fuel d : Nat), Region.reachB md ops i fuel d = true → listed.getD d false = true → listed.getD i false = true
  | 0, _, h, _ => by simp [Region.reachB] at h
  | fuel + 1, d, h, hl => by
    unfold Region.reachB at h
    cases ho : ops[d]? with
    | none => rw [ho] at h; simp at h
    | some o =>
      rw [ho] at h
      obtain ⟨e, he, h1⟩ := Array.any_eq_true'.1 h
      simp only [Bool.and_eq_true, Bool.or_eq_true, beq_iff_eq] at h1
      have hle := hc d o ho hl e he h1.1
      rcases h1.2 with h2 | h2
      · rw [← h2]; exact hle
      · exact Region.reach_listed hc fuel e.on h2 hle

/-- What waits for i cannot come up before i is listed. -/
theorem Region.reach_not_ready {listed : Array Bool} {i d fuel : Nat} (hc : ListedClosed md ops listed) (hr : Region.reachB md ops i fuel d = true) (hun : listed.getD i true = false) : d ∉ Region.ready md ops listed := by
  intro hd
  obtain ⟨_, o, ho, hall⟩ := mem_ready.1 hd
  have hi : listed.getD i false = true := by
    cases fuel with
    | zero => simp [Region.reachB] at hr
    | succ n =>
      unfold Region.reachB at hr
      rw [ho] at hr
      obtain ⟨e, he, h1⟩ := Array.any_eq_true'.1 hr
      simp only [Bool.and_eq_true, Bool.or_eq_true, beq_iff_eq] at h1
      have hle := hall e he h1.1
      rcases h1.2 with h2 | h2
      · rw [← h2]; exact hle
      · exact Region.reach_listed hc n e.on h2 hle
  rcases Nat.lt_or_ge i listed.size with h' | h'
  · simp [h'] at hun hi
    rw [hun] at hi
    cases hi
  · simp [Array.getElem?_eq_none h'] at hun

/-- Whatever order is picked from here on, AND 'S' HOLDS BEHIND EVERY OPERATION THAT IS CARRIED OUT, those of ds apart. -/
def wpAnyLast (P : Program) (md : Region.Mode) (ops : Array Oper) (Q : Exit → Act → World → Prop) (S : World → Prop) (ds : List Nat) : Nat → Array Bool → Act → World → Prop
  | 0, listed, a, w => Region.ready md ops listed = [] ∧ Q .normal a w
  | fuel + 1, listed, a, w =>
    (Region.ready md ops listed = [] → Q .normal a w) ∧
    ∀ i ∈ Region.ready md ops listed, wpOp P ops Q i (fun a' w' => (i ∉ ds → S w → S w') ∧ wpAnyLast P md ops Q S ds fuel (listed.setIfInBounds i true) a' w') a w

theorem wpAny_of_last : ∀ (fuel : Nat) (listed : Array Bool) (a : Act) (w : World), wpAnyLast P md ops Q S ds fuel listed a w → wpAny P md ops Q fuel listed a w
  | 0, _, _, _, h => h
  | fuel + 1, _, _, _, h => ⟨h.1, fun i hi => wpOp_mono (fun a' w' h' => wpAny_of_last fuel _ a' w' h'.2) (h.2 i hi)⟩

theorem wpAnyLast_first {i : Nat} {oi : Oper} {v : Value} (hi : ops[i]? = some oi) (hsel : ∀ (j : Nat) (o : Oper) cs b, ops[j]? = some o → o.op ≠ .select cs b)
    (hQ : ∀ c a w, Q (.panic c) (a.put oi.dst v) w → Q (.panic c) a w) (n : Nat) :
    ∀ (fuel : Nat) (listed : Array Bool) (a : Act) (w : World),
      (∀ j oj, ops[j]? = some oj → j ≠ i → listed.getD j true = false → (∀ e ∈ oj.after, Region.binds md e = true → e.on ≠ i) → oi.apart ops oj = true) →
      ListedClosed md ops listed → (∀ d ∈ ds, listed.getD d true = false → Region.reachB md ops i n d = true) →
      i ∈ Region.ready md ops listed → YieldsIf P ops S oi v a → S w →
      wpAnyLast P md ops Q S ds fuel (listed.setIfInBounds i true) (a.put oi.dst v) w → wpAnyLast P md ops Q S ds (fuel + 1) listed a w := by
  intro fuel
  induction fuel with
  | zero =>
    intro listed a w _ _ _ hr hy hS H
    refine ⟨fun h => (by rw [h] at hr; cases hr), fun j hj => ?_⟩
    by_cases hji : j = i
    · subst hji; exact hy.wpOp hi hS ⟨fun _ h => h, H⟩
    · have := ready_mono hj hji
      rw [H.1] at this
      cases this
  | succ fuel ih =>
    intro listed a w hfree hc hd hr hy hS H
    refine ⟨fun h => (by rw [h] at hr; cases hr), fun j hj => ?_⟩
    by_cases hji : j = i
    · subst hji; exact hy.wpOp hi hS ⟨fun _ h => h, H⟩
    · have h1 := H.2 j (ready_mono hj hji)
      obtain ⟨hjun, oj, hoj, hall⟩ := mem_ready.1 hj
      have hiun := (mem_ready.1 hr).1
      have hnot : ∀ e ∈ oj.after, Region.binds md e = true → e.on ≠ i := fun e he hb heq => by
        have h1 := hall e he hb
        rw [heq] at h1
        rcases Nat.lt_or_ge i listed.size with h' | h'
        · simp [h'] at hiun h1; rw [hiun] at h1; cases h1
        · simp [Array.getElem?_eq_none h'] at h1
      have hjd : j ∉ ds := fun hm => Region.reach_not_ready hc (hd j hm hjun) hiun hj
      have h2 := wpOp_putIf hoj (hfree j oj hoj hji hjun hnot) (fun cs b => hsel i oi cs b hi) (fun cs b => hsel j oj cs b hoj) hQ hy h1
      have hfree' : ∀ k ok, ops[k]? = some ok → k ≠ i → (listed.setIfInBounds j true).getD k true = false →
          (∀ e ∈ ok.after, Region.binds md e = true → e.on ≠ i) → oi.apart ops ok = true := fun k ok hk hki hun hno => by
        refine hfree k ok hk hki ?_ hno
        by_cases hjk : j = k
        · subst hjk; exact hjun
        · rw [getD_set_ne true hjk] at hun; exact hun
      have hd' : ∀ d ∈ ds, (listed.setIfInBounds j true).getD d true = false → Region.reachB md ops i n d = true := fun d hm hun => by
        refine hd d hm ?_
        by_cases hjk : j = d
        · subst hjk; exact hjun
        · rw [getD_set_ne true hjk] at hun; exact hun
      refine wpOp_mono (fun a' w' h3 => ⟨h3.2.1, ih (listed.setIfInBounds j true) a' w' hfree' (hc.set hj) hd' (ready_mono hr (Ne.symm hji)) h3.1 (h3.2.1 hjd hS) ?_⟩) h2
      rw [Array.setIfInBounds_comm _ _ hji]
      exact h3.2.2

/-- Take number 'i' first, which yields whatever the world: no S is asked for, nor that anything waits for it. -/
theorem wpAnyLast_any {i : Nat} {oi : Oper} {v : Value} (hi : ops[i]? = some oi) (hsel : ∀ (j : Nat) (o : Oper) cs b, ops[j]? = some o → o.op ≠ .select cs b)
    (hQ : ∀ c a w, Q (.panic c) (a.put oi.dst v) w → Q (.panic c) a w) :
    ∀ (fuel : Nat) (listed : Array Bool) (a : Act) (w : World),
      (∀ j oj, ops[j]? = some oj → j ≠ i → listed.getD j true = false → (∀ e ∈ oj.after, Region.binds md e = true → e.on ≠ i) → oi.apart ops oj = true) →
      i ∈ Region.ready md ops listed → Yields P ops oi v a →
      wpAnyLast P md ops Q S ds fuel (listed.setIfInBounds i true) (a.put oi.dst v) w → wpAnyLast P md ops Q S ds (fuel + 1) listed a w := by
  intro fuel
  induction fuel with
  | zero =>
    intro listed a w _ hr hy H
    refine ⟨fun h => (by rw [h] at hr; cases hr), fun j hj => ?_⟩
    by_cases hji : j = i
    · subst hji; exact (hy.yieldsIf (S := fun _ => True)).wpOp hi trivial ⟨fun _ h => h, H⟩
    · have := ready_mono hj hji
      rw [H.1] at this
      cases this
  | succ fuel ih =>
    intro listed a w hfree hr hy H
    refine ⟨fun h => (by rw [h] at hr; cases hr), fun j hj => ?_⟩
    by_cases hji : j = i
    · subst hji; exact (hy.yieldsIf (S := fun _ => True)).wpOp hi trivial ⟨fun _ h => h, H⟩
    · have h1 := H.2 j (ready_mono hj hji)
      obtain ⟨hjun, oj, hoj, hall⟩ := mem_ready.1 hj
      have hiun := (mem_ready.1 hr).1
      have hnot : ∀ e ∈ oj.after, Region.binds md e = true → e.on ≠ i := fun e he hb heq => by
        have h1 := hall e he hb
        rw [heq] at h1
        rcases Nat.lt_or_ge i listed.size with h' | h'
        · simp [h'] at hiun h1; rw [hiun] at h1; cases h1
        · simp [Array.getElem?_eq_none h'] at h1
      have h2 := wpOp_put hoj (hfree j oj hoj hji hjun hnot) (fun cs b => hsel i oi cs b hi) (fun cs b => hsel j oj cs b hoj) hQ hy h1
      have hfree' : ∀ k ok, ops[k]? = some ok → k ≠ i → (listed.setIfInBounds j true).getD k true = false →
          (∀ e ∈ ok.after, Region.binds md e = true → e.on ≠ i) → oi.apart ops ok = true := fun k ok hk hki hun hno => by
        refine hfree k ok hk hki ?_ hno
        by_cases hjk : j = k
        · subst hjk; exact hjun
        · rw [getD_set_ne true hjk] at hun; exact hun
      refine wpOp_mono (fun a' w' h3 => ⟨h3.2.1, ih (listed.setIfInBounds j true) a' w' hfree' (ready_mono hr (Ne.symm hji)) h3.1 ?_⟩) h2
      rw [Array.setIfInBounds_comm _ _ hji]
      exact h3.2.2

/-- Take number 'i' first. -/
theorem wpAnyLast_take {i : Nat} {oi : Oper} {v : Value} {fuel : Nat} {listed : Array Bool} {a : Act} {w : World} (hi : ops[i]? = some oi)
    (hs : Region.noSelect ops = true) (hf : Region.free md ops listed i = true) (hr : (Region.ready md ops listed).contains i = true)
    (hc : Region.closedB md ops listed = true) (hl : Region.lastB md ops listed ds i = true)
    (hQ : ∀ c a w, Q (.panic c) (a.put oi.dst v) w → Q (.panic c) a w) (hy : YieldsIf P ops S oi v a) (hS : S w)
    (h : wpAnyLast P md ops Q S ds fuel (listed.setIfInBounds i true) (a.put oi.dst v) w) : wpAnyLast P md ops Q S ds (fuel + 1) listed a w :=
  wpAnyLast_first hi (Region.noSelect_spec hs) hQ ops.size fuel listed a w (Region.free_spec hi hf) (Region.closedB_spec hc)
    (fun d hm hun => by have := List.all_eq_true.1 hl d hm; rw [hun] at this; simpa using this) (by simpa using hr) hy hS h

theorem wpAnyLast_all {rs : List Nat} {fuel : Nat} {listed : Array Bool} {a : Act} {w : World} (hr : Region.ready md ops listed = rs) (hne : rs ≠ [])
    (h : ∀ i ∈ rs, wpOp P ops Q i (fun a' w' => (i ∉ ds → S w → S w') ∧ wpAnyLast P md ops Q S ds fuel (listed.setIfInBounds i true) a' w') a w) : wpAnyLast P md ops Q S ds (fuel + 1) listed a w :=
  ⟨fun h0 => absurd (hr ▸ h0) hne, hr ▸ h⟩

theorem wpAnyLast_done {listed : Array Bool} {a : Act} {w : World} (hr : Region.ready md ops listed = []) (h : Q .normal a w) :
    ∀ fuel, wpAnyLast P md ops Q S ds fuel listed a w
  | 0 => ⟨hr, h⟩
  | _ + 1 => ⟨fun _ => h, by rw [hr]; simp⟩

theorem wp_region_last {id : Nat} {a : Act} {w : World} (hm : P.follows .mixedOrders = true)
    (h : wpAnyLast P .any ops Q S ds ops.size (Array.replicate ops.size false) a { w with drawn := w.drawn + 1 }) : (Code.region id ops true).wp P Q a w :=
  wp_region_any hm (wpAny_of_last _ _ _ _ h)

end

section
variable {P : Program} {ops : Array Oper} {Q : Exit → Act → World → Prop} {md : Region.Mode} {S : World → Prop} {ds : List Nat}

def AllReadyL (P : Program) (md : Region.Mode) (ops : Array Oper) (Q : Exit → Act → World → Prop) (S : World → Prop) (ds : List Nat) (fuel : Nat) (listed : Array Bool) (a : Act) (w : World) (rs : List Nat) : Prop :=
  ∀ i ∈ rs, wpOp P ops Q i (fun a' w' => (i ∉ ds → S w → S w') ∧ wpAnyLast P md ops Q S ds fuel (listed.setIfInBounds i true) a' w') a w
theorem AllReadyL.nil {fuel : Nat} {listed : Array Bool} {a : Act} {w : World} : AllReadyL P md ops Q S ds fuel listed a w [] := fun _ h => by cases h
theorem AllReadyL.cons {fuel : Nat} {listed : Array Bool} {a : Act} {w : World} {i : Nat} {o : Oper} {rs : List Nat} (ho : ops[i]? = some o) (hd : i ∉ ds)
    (h : ∀ K' : Act → World → Prop, Shut (∀ a w, S w → (S w → wpAnyLast P md ops Q S ds fuel (listed.setIfInBounds i true) a w) → K' a w) → if Region.wanted o (yielded ops a.tmps) = true then Oper.wp P o a w K' Q else K' (a.put o.dst undef) w)
    (hs : AllReadyL P md ops Q S ds fuel listed a w rs) : AllReadyL P md ops Q S ds fuel listed a w (i :: rs) := fun j hj => by
  rcases List.mem_cons.1 hj with rfl | hj
  · exact wpOp_step ho (fun K' hK => h K' (fun a w hS hW => hK a w ⟨fun _ _ => hS, hW hS⟩))
  · exact hs j hj
/-- Behind an operation of ds nothing is shown. -/
theorem AllReadyL.cons_last {fuel : Nat} {listed : Array Bool} {a : Act} {w : World} {i : Nat} {o : Oper} {rs : List Nat} (ho : ops[i]? = some o) (hd : i ∈ ds)
    (h : ∀ K' : Act → World → Prop, Shut (∀ a w, wpAnyLast P md ops Q S ds fuel (listed.setIfInBounds i true) a w → K' a w) → if Region.wanted o (yielded ops a.tmps) = true then Oper.wp P o a w K' Q else K' (a.put o.dst undef) w)
    (hs : AllReadyL P md ops Q S ds fuel listed a w rs) : AllReadyL P md ops Q S ds fuel listed a w (i :: rs) := fun j hj => by
  rcases List.mem_cons.1 hj with rfl | hj
  · exact wpOp_step ho (fun K' hK => h K' (fun a w hW => hK a w ⟨fun hn => absurd hd hn, hW⟩))
  · exact hs j hj
theorem wpAnyLast_ready {rs : List Nat} {fuel : Nat} {listed : Array Bool} {a : Act} {w : World} (hr : Region.ready md ops listed = rs) (hne : rs ≠ [])
    (h : AllReadyL P md ops Q S ds fuel listed a w rs) : wpAnyLast P md ops Q S ds (fuel + 1) listed a w := wpAnyLast_all hr hne h
theorem wp_region_last_drew {id : Nat} {a : Act} {w : World} (hm : P.follows .mixedOrders = true) (hS : S w.drew)
    (h : S w.drew → wpAnyLast P .any ops Q S ds ops.size (Array.replicate ops.size false) a w.drew) : (Code.region id ops true).wp P Q a w :=
  wp_region_last hm (h hS)
/-- THE SAME STEPS WITH WHAT HAS COME UP WRITTEN OUT (a literal array of Bools) and one check a step: quicker, and what is printed stays short. -/
theorem start_ {id n : Nat} {a : Act} {w : World} (l : Array Bool) (hm : P.follows .mixedOrders = true) (hn : ops.size = n) (hl : Array.replicate n false = l) (hS : S w.drew)
    (h : S w.drew → wpAnyLast P .any ops Q S ds n l a w.drew) : (Code.region id ops true).wp P Q a w := by
  subst hn
  subst hl
  exact wp_region_last hm (h hS)
def takeB (md : Region.Mode) (ops : Array Oper) (ds : List Nat) (l l' : Array Bool) (i : Nat) : Bool :=
  Region.noSelect ops && Region.free md ops l i && (Region.ready md ops l).contains i && Region.closedB md ops l && Region.lastB md ops l ds i && (l.setIfInBounds i true == l')
theorem take_ {i : Nat} {N : Option Tmp} {oi : Oper} {v : Value} {fuel : Nat} {l : Array Bool} {a : Act} {w : World} (l' : Array Bool) (hi : ops[i]? = some oi) (hN : oi.dst = N) (hc : takeB md ops ds l l' i = true)
    (hQ : ∀ c a w, Q (.panic c) (a.put oi.dst v) w → Q (.panic c) a w) (hy : YieldsIf P ops S oi v a) (hS : S w) {a' : Act} (ha : a.put N v = a')
    (h : wpAnyLast P md ops Q S ds fuel l' a' w) : wpAnyLast P md ops Q S ds (fuel + 1) l a w := by
  subst ha
  subst hN
  simp only [takeB, Bool.and_eq_true, beq_iff_eq] at hc
  obtain ⟨⟨⟨⟨⟨h1, h2⟩, h3⟩, h4⟩, h5⟩, h6⟩ := hc
  subst h6
  exact wpAnyLast_take hi h1 h2 h3 h4 h5 hQ hy hS h
def anyB (md : Region.Mode) (ops : Array Oper) (l l' : Array Bool) (i : Nat) : Bool :=
  Region.noSelect ops && Region.free md ops l i && (Region.ready md ops l).contains i && (l.setIfInBounds i true == l')
/-- An operation that yields in every world (a move, a number, an address): taken first wherever it may come up, behind a store too. -/
theorem pure_ {i : Nat} {N : Option Tmp} {oi : Oper} {v : Value} {fuel : Nat} {l : Array Bool} {a : Act} {w : World} (l' : Array Bool) (hi : ops[i]? = some oi) (hN : oi.dst = N) (hc : anyB md ops l l' i = true)
    (hQ : ∀ c a w, Q (.panic c) (a.put oi.dst v) w → Q (.panic c) a w) (hy : Yields P ops oi v a) {a' : Act} (ha : a.put N v = a')
    (h : wpAnyLast P md ops Q S ds fuel l' a' w) : wpAnyLast P md ops Q S ds (fuel + 1) l a w := by
  subst ha
  subst hN
  simp only [anyB, Bool.and_eq_true, beq_iff_eq] at hc
  obtain ⟨⟨⟨h1, h2⟩, h3⟩, h6⟩ := hc
  subst h6
  exact wpAnyLast_any hi (Region.noSelect_spec h1) hQ fuel l a w (Region.free_spec hi h2) (by simpa using h3) hy h
def readyB (md : Region.Mode) (ops : Array Oper) (l l' : Array Bool) (i : Nat) : Bool := (Region.ready md ops l == [i]) && (l.setIfInBounds i true == l')
/-- One operation alone may come up now (a call, a build, an append ..): it is run, S is shown behind it. -/
theorem one_ {i : Nat} {N : Option Tmp} {oi : Oper} {fuel : Nat} {l : Array Bool} {a : Act} {w : World} (l' : Array Bool) (hi : ops[i]? = some oi) (hN : oi.dst = N) (hc : readyB md ops l l' i = true) (hd : i ∉ ds)
    (h : ∀ K : Act → World → Prop, Shut (∀ a' w', S w' → (S w' → wpAnyLast P md ops Q S ds fuel l' a' w') → K a' w') → if Region.wanted oi (yielded ops a.tmps) = true then Oper.wp P oi a w K Q else K (a.put N undef) w) :
    wpAnyLast P md ops Q S ds (fuel + 1) l a w := by
  subst hN
  simp only [readyB, Bool.and_eq_true, beq_iff_eq] at hc
  obtain ⟨h1, h2⟩ := hc
  subst h2
  exact wpAnyLast_ready h1 (by simp) (AllReadyL.cons hi hd (fun K hK => h K hK) AllReadyL.nil)
/-- The same for one of ds: nothing is shown behind it. -/
theorem last_ {i : Nat} {N : Option Tmp} {oi : Oper} {fuel : Nat} {l : Array Bool} {a : Act} {w : World} (l' : Array Bool) (hi : ops[i]? = some oi) (hN : oi.dst = N) (hc : readyB md ops l l' i = true) (hd : i ∈ ds)
    (h : ∀ K : Act → World → Prop, Shut (∀ a' w', wpAnyLast P md ops Q S ds fuel l' a' w' → K a' w') → if Region.wanted oi (yielded ops a.tmps) = true then Oper.wp P oi a w K Q else K (a.put N undef) w) :
    wpAnyLast P md ops Q S ds (fuel + 1) l a w := by
  subst hN
  simp only [readyB, Bool.and_eq_true, beq_iff_eq] at hc
  obtain ⟨h1, h2⟩ := hc
  subst h2
  exact wpAnyLast_ready h1 (by simp) (AllReadyL.cons_last hi hd (fun K hK => h K hK) AllReadyL.nil)
theorem done_ {l : Array Bool} {a : Act} {w : World} {n : Nat} (hr : (Region.ready md ops l == []) = true) (h : Q .normal a w) : wpAnyLast P md ops Q S ds n l a w := wpAnyLast_done (by simpa using hr) h n
/-! ### Several operations that write or call may come up: each order is walked, what follows is shown once (join_) -/
theorem two_ {i j : Nat} {Ni Nj : Option Tmp} {oi oj : Oper} {fuel : Nat} {l : Array Bool} {a : Act} {w : World} (li lj : Array Bool) (hi : ops[i]? = some oi) (hj : ops[j]? = some oj) (hNi : oi.dst = Ni) (hNj : oj.dst = Nj)
    (hc : (Region.ready md ops l == [i, j] && l.setIfInBounds i true == li && l.setIfInBounds j true == lj) = true) (hdi : i ∉ ds) (hdj : j ∉ ds)
    (h1 : ∀ K : Act → World → Prop, Shut (∀ a' w', S w' → (S w' → wpAnyLast P md ops Q S ds fuel li a' w') → K a' w') → if Region.wanted oi (yielded ops a.tmps) = true then Oper.wp P oi a w K Q else K (a.put Ni undef) w)
    (h2 : ∀ K : Act → World → Prop, Shut (∀ a' w', S w' → (S w' → wpAnyLast P md ops Q S ds fuel lj a' w') → K a' w') → if Region.wanted oj (yielded ops a.tmps) = true then Oper.wp P oj a w K Q else K (a.put Nj undef) w) :
    wpAnyLast P md ops Q S ds (fuel + 1) l a w := by
  subst hNi
  subst hNj
  simp only [Bool.and_eq_true, beq_iff_eq] at hc
  obtain ⟨⟨h3, h4⟩, h5⟩ := hc
  subst h4
  subst h5
  exact wpAnyLast_ready h3 (by simp) (AllReadyL.cons hi hdi (fun K hK => h1 K hK) (AllReadyL.cons hj hdj (fun K hK => h2 K hK) AllReadyL.nil))
theorem three_ {i j k : Nat} {Ni Nj Nk : Option Tmp} {oi oj ok : Oper} {fuel : Nat} {l : Array Bool} {a : Act} {w : World} (li lj lk : Array Bool) (hi : ops[i]? = some oi) (hj : ops[j]? = some oj) (hk : ops[k]? = some ok) (hNi : oi.dst = Ni) (hNj : oj.dst = Nj) (hNk : ok.dst = Nk)
    (hc : (Region.ready md ops l == [i, j, k] && l.setIfInBounds i true == li && l.setIfInBounds j true == lj && l.setIfInBounds k true == lk) = true) (hdi : i ∉ ds) (hdj : j ∉ ds) (hdk : k ∉ ds)
    (h1 : ∀ K : Act → World → Prop, Shut (∀ a' w', S w' → (S w' → wpAnyLast P md ops Q S ds fuel li a' w') → K a' w') → if Region.wanted oi (yielded ops a.tmps) = true then Oper.wp P oi a w K Q else K (a.put Ni undef) w)
    (h2 : ∀ K : Act → World → Prop, Shut (∀ a' w', S w' → (S w' → wpAnyLast P md ops Q S ds fuel lj a' w') → K a' w') → if Region.wanted oj (yielded ops a.tmps) = true then Oper.wp P oj a w K Q else K (a.put Nj undef) w)
    (h3 : ∀ K : Act → World → Prop, Shut (∀ a' w', S w' → (S w' → wpAnyLast P md ops Q S ds fuel lk a' w') → K a' w') → if Region.wanted ok (yielded ops a.tmps) = true then Oper.wp P ok a w K Q else K (a.put Nk undef) w) :
    wpAnyLast P md ops Q S ds (fuel + 1) l a w := by
  subst hNi
  subst hNj
  subst hNk
  simp only [Bool.and_eq_true, beq_iff_eq] at hc
  obtain ⟨⟨⟨h4, h5⟩, h6⟩, h7⟩ := hc
  subst h5
  subst h6
  subst h7
  exact wpAnyLast_ready h4 (by simp) (AllReadyL.cons hi hdi (fun K hK => h1 K hK) (AllReadyL.cons hj hdj (fun K hK => h2 K hK) (AllReadyL.cons hk hdk (fun K hK => h3 K hK) AllReadyL.nil)))
/-- The act with some destinations filled. -/
def putAll : Act → List (Tmp × Value) → Act
  | a, [] => a
  | a, (n, v) :: r => putAll (a.put (some n) v) r
/-- What follows, once: s the values that the orders leave, F what is known of them and of the world. -/
theorem join_ {σ : Type} {fuel : Nat} {l : Array Bool} {a : Act} {w : World} (fuel' : Nat) (l' : Array Bool) (ns : σ → List (Tmp × Value)) (F : σ → World → Prop)
    (hcont : ∀ s w', F s w' → wpAnyLast P md ops Q S ds fuel' l' (putAll a (ns s)) w')
    (h : (∀ s w', F s w' → wpAnyLast P md ops Q S ds fuel' l' (putAll a (ns s)) w') → wpAnyLast P md ops Q S ds fuel l a w) : wpAnyLast P md ops Q S ds fuel l a w := h hcont
/-- The act written out. -/
theorem norm_ {fuel : Nat} {l : Array Bool} {a a' : Act} {w : World} (ha : a = a') (h : wpAnyLast P md ops Q S ds fuel l a' w) : wpAnyLast P md ops Q S ds fuel l a w := by
  subst ha
  exact h
/-- A call of a Go function, by its contract. -/
theorem call_ {oi : Oper} {N : Option Tmp} {a : Act} {w : World} {K : Act → World → Prop} (f : FuncId) (args : Array Value) (hw : Region.wanted oi (yielded ops a.tmps) = true) (hN : oi.dst = N) (hrun : (execOp a.eval oi).run P w = .ok (.enter f args) w)
    (h : Calls P f args w fun e w' => ∃ v, e = .returned v ∧ K (a.put N v) w') : if Region.wanted oi (yielded ops a.tmps) = true then Oper.wp P oi a w K Q else K (a.put N undef) w := by
  rw [if_pos hw]
  subst hN
  unfold Oper.wp
  rw [hrun, Oper.upon_enter]
  refine h.mono fun e w'' hh => ?_
  obtain ⟨v, rfl, hk⟩ := hh
  exact hk
theorem enters_ {f : FuncId} {fn : Func} (hf : P.funcs[f]? = some fn) (hname : (fn.name == "runtime.NumGoroutine") = false) (hb : fn.body.isSome = true) (args : Array Value) (w : World) : (callFunc f args).run P w = .ok (.enter f args) w := by
  have h1 : fn.name ≠ "runtime.NumGoroutine" := by simpa using hname
  obtain ⟨c, hc⟩ := Option.isSome_iff_exists.1 hb
  simp [callFunc, hf, h1, hc]
/-- The same, the operation's run shown here: 'goes_ A.func3 (by kernel_rfl) rfl #[..] (by rfl) rfl rfl (by rfl) ?_'. -/
theorem goes_ {oi : Oper} {N : Option Tmp} {a : Act} {w : World} {K : Act → World → Prop} {f : FuncId} {fn : Func} {as : Array Operand} {ts : Array TypeId} (hf : P.funcs[f]? = some fn) (hname : (fn.name == "runtime.NumGoroutine") = false) (hb : fn.body.isSome = true) (args : Array Value)
    (hw : Region.wanted oi (yielded ops a.tmps) = true) (hN : oi.dst = N) (hop : oi.op = .call { callee := .value (.func f), args := as, argTypes := ts }) (hargs : as.map a.eval = args)
    (h : Calls P f args w fun e w' => ∃ v, e = .returned v ∧ K (a.put N v) w') : if Region.wanted oi (yielded ops a.tmps) = true then Oper.wp P oi a w K Q else K (a.put N undef) w := by
  refine call_ f args hw hN ?_ h
  have he := enters_ hf hname hb args w
  unfold execOp
  simp [hop, resolve, Deferred.ofValue, invoke, Act.eval, hargs, he]
/-- A call in a plain region, as an arm of go_wp2_with ('hd' first: it fails at once at another operation). -/
theorem goesL_ {rest : List Oper} {oi : Oper} {a : Act} {w : World} (N : Option Tmp) (hd : oi.dst = N) (hg : oi.guard = none) {f : FuncId} {fn : Func} {as : Array Operand} {ts : Array TypeId} (hf : P.funcs[f]? = some fn) (hname : (fn.name == "runtime.NumGoroutine") = false) (hb : fn.body.isSome = true) (args : Array Value)
    (hop : oi.op = .call { callee := .value (.func f), args := as, argTypes := ts }) (hargs : as.map a.eval = args)
    (h : Calls P f args w fun e w' => ∃ v, e = .returned v ∧ wpList P ops Q rest (a.put N v) w') : wpList P ops Q (oi :: rest) a w := by
  refine wpList_plain hg fun K hK => ?_
  have he := enters_ hf hname hb args w
  have hrun : (execOp a.eval oi).run P w = .ok (.enter f args) w := by
    unfold execOp
    simp [hop, resolve, Deferred.ofValue, invoke, Act.eval, hargs, he]
  unfold Oper.wp
  rw [hrun, Oper.upon_enter]
  refine h.mono fun e w'' hh => ?_
  obtain ⟨v, rfl, hk⟩ := hh
  subst hd
  exact hK _ _ hk
/-- An operation that yields a value (and may make memory). -/
theorem value_ {oi : Oper} {N : Option Tmp} {a : Act} {w w1 : World} {v : Value} {K : Act → World → Prop} (hw : Region.wanted oi (yielded ops a.tmps) = true) (hN : oi.dst = N) (hrun : (execOp a.eval oi).run P w = .ok (.value v) w1)
    (h : K (a.put N v) w1) : if Region.wanted oi (yielded ops a.tmps) = true then Oper.wp P oi a w K Q else K (a.put N undef) w := by
  rw [if_pos hw]
  subst hN
  unfold Oper.wp
  rw [hrun]
  exact h
/-- A store. -/
theorem skip_ {oi : Oper} {a : Act} {w w1 : World} {K : Act → World → Prop} (hw : Region.wanted oi (yielded ops a.tmps) = true) (hN : oi.dst = none) (hrun : (execOp a.eval oi).run P w = .ok .skip w1)
    (h : K a w1) : if Region.wanted oi (yielded ops a.tmps) = true then Oper.wp P oi a w K Q else K (a.put none undef) w := by
  rw [if_pos hw]
  unfold Oper.wp
  rw [hrun]
  show K (a.put oi.dst undef) w1
  rw [hN]
  exact h
/-- An operation whose guard is off, behind a store of ds. -/
theorem off_ {oi : Oper} {N : Option Tmp} {a : Act} {w : World} {K : Act → World → Prop} (hw : Region.wanted oi (yielded ops a.tmps) = false) (h : K (a.put N undef) w) : if Region.wanted oi (yielded ops a.tmps) = true then Oper.wp P oi a w K Q else K (a.put N undef) w := by
  rw [hw, if_neg (by simp)]
  exact h
theorem i64_w (n : Int) : IntKind.i64.wrap n = Go.RowKit.wrap64 n := by unfold Go.RowKit.wrap64; exact IntKind.wrap_i64 n
theorem i32_w (n : Int) : IntKind.i32.wrap n = Go.RowKit.wrap32 n := by unfold Go.RowKit.wrap32; exact IntKind.wrap_i32 n
end
end Go.Proofs.YtidgpkccjcddgaaGreatDoorW.PrintLast
/- The frame of a walk: what the world has kept, and the blocks that are this call's own. -/
set_option linter.unusedVariables false
set_option linter.unusedSimpArgs false
namespace Go.Proofs.YtidgpkccjcddgaaGreatDoor.F
open Go.RowKit Go.Shelf

/-- what stood in w stands in W, and the blocks of bs are as told -/
def Fr (w W : World) (bs : List (Nat × List Value)) : Prop := Below w.heap.size w W ∧ ∀ p, p ∈ bs → Own W p.1 p.2
theorem Fr.refl (w : World) : Fr w w [] := ⟨Below.refl _ _, fun _ h => by cases h⟩
theorem Fr.bel {w W : World} {bs : List (Nat × List Value)} (h : Fr w W bs) : Below w.heap.size w W := h.1
theorem Fr.own {w W : World} {bs : List (Nat × List Value)} (h : Fr w W bs) {g : Nat} {cs : List Value} (hm : (g, cs) ∈ bs) : Own W g cs := h.2 _ hm
theorem Fr.cellAt {w W : World} {bs : List (Nat × List Value)} (h : Fr w W bs) {g : Nat} {cs : List Value} (hm : (g, cs) ∈ bs) (i : Nat) (hi : i < cs.length) : W.cell? ⟨g, i, none⟩ = some cs[i] := (h.own hm).cell i hi
theorem Fr.ownN {w W : World} {bs : List (Nat × List Value)} (h : Fr w W bs) {g : Nat} {cs : List Value} (k : Nat) (hk : bs[k]? = some (g, cs)) : Own W g cs := h.2 _ (List.mem_of_getElem? hk)
theorem Fr.cellN {w W : World} {bs : List (Nat × List Value)} (h : Fr w W bs) {g : Nat} {cs : List Value} (k : Nat) (hk : bs[k]? = some (g, cs)) (i : Nat) {v : Value} (hi : cs[i]? = some v) : W.cell? ⟨g, i, none⟩ = some v := by
  obtain ⟨h1, h2⟩ := List.getElem?_eq_some_iff.1 hi
  rw [(h.ownN k hk).cell i h1, h2]
theorem Fr.frozenN {w W : World} {bs : List (Nat × List Value)} (h : Fr w W bs) {g : Nat} {cs : List Value} (k : Nat) (hk : bs[k]? = some (g, cs)) (i : Nat) : W.frozen? ⟨g, i, none⟩ = false := (h.ownN k hk).frozen i
theorem Fr.ltN {w W : World} {bs : List (Nat × List Value)} (h : Fr w W bs) {g : Nat} {cs : List Value} (k : Nat) (hk : bs[k]? = some (g, cs)) : g < W.heap.size := (h.ownN k hk).lt
theorem Fr.frozen {w W : World} {bs : List (Nat × List Value)} (h : Fr w W bs) {g : Nat} {cs : List Value} (hm : (g, cs) ∈ bs) (i : Nat) : W.frozen? ⟨g, i, none⟩ = false := (h.own hm).frozen i
theorem Fr.below {w W W' : World} {bs : List (Nat × List Value)} (h : Fr w W bs) (hb : Below W.heap.size W W') : Fr w W' bs :=
  ⟨h.1.trans (hb.mono h.1.size), fun p hp => (h.2 p hp).below hb (h.2 p hp).lt⟩
theorem Fr.alloc {w W : World} {bs : List (Nat × List Value)} (h : Fr w W bs) (o : Obj) : Fr w (W.alloc o) bs := h.below ((Below.refl _ _).alloc (Nat.le_refl _) o)
theorem Fr.drewN {w W : World} {bs : List (Nat × List Value)} (h : Fr w W bs) (n : Nat) : Fr w (W.drewN n) bs := h.below (below_drewN (Below.refl _ _) n)
theorem Fr.drew {w W : World} {bs : List (Nat × List Value)} (h : Fr w W bs) : Fr w W.drew bs := h.below (Below.drew (Below.refl _ _))
theorem Fr.box {w W : World} {bs : List (Nat × List Value)} (h : Fr w W bs) (cs : List Value) (t : TypeId) : Fr w (W.alloc (.cells cs.toArray t (0, 0))) ((W.heap.size, cs) :: bs) :=
  ⟨(h.alloc _).1, fun p hp => by
    rcases List.mem_cons.1 hp with rfl | hp
    · exact Own.mk _ _
    · exact (h.alloc _).2 p hp⟩
theorem Fr.set {w W : World} {bs : List (Nat × List Value)} {g : Nat} {cs : List Value} (h : Fr w W ((g, cs) :: bs)) (hg : w.heap.size ≤ g) (hn : ∀ p, p ∈ bs → p.1 ≠ g) (i : Nat) (v : Value) : Fr w (W.setCell ⟨g, i, none⟩ v) ((g, cs.set i v) :: bs) :=
  ⟨h.1.setCell hg v, fun p hp => by
    rcases List.mem_cons.1 hp with rfl | hp
    · exact (h.own (List.mem_cons_self ..)).set i v
    · exact (h.2 p (List.mem_cons_of_mem _ hp)).far (hn p hp) v⟩
theorem Fr.setN {w W : World} {bs : List (Nat × List Value)} (h : Fr w W bs) {g : Nat} {cs : List Value} (k : Nat) (hk : bs[k]? = some (g, cs)) (hg : w.heap.size ≤ g) (hn : ∀ p ∈ bs.eraseIdx k, p.1 ≠ g) (i : Nat) (v : Value) : Fr w (W.setCell ⟨g, i, none⟩ v) (bs.set k (g, cs.set i v)) :=
  ⟨h.1.setCell hg v, fun p hp => by
    obtain ⟨j, hj⟩ := List.mem_iff_getElem?.1 hp
    rw [List.getElem?_set] at hj
    split at hj
    · split at hj
      · obtain rfl := Option.some.inj hj
        exact (h.ownN k hk).set i v
      · cases hj
    · rename_i hkj
      have hm : p ∈ bs.eraseIdx k := by
        refine List.mem_iff_getElem?.2 ?_
        by_cases hlt : j < k
        · exact ⟨j, by rw [List.getElem?_eraseIdx, if_pos hlt]; exact hj⟩
        · refine ⟨j - 1, ?_⟩
          rw [List.getElem?_eraseIdx, if_neg (by omega), show j - 1 + 1 = j by omega]
          exact hj
      exact (h.2 p (List.mem_of_getElem? hj)).far (hn p hm) v⟩
theorem Fr.size {w W : World} {bs : List (Nat × List Value)} (h : Fr w W bs) : w.heap.size ≤ W.heap.size := h.1.size
theorem Fr.lt {w W : World} {bs : List (Nat × List Value)} (h : Fr w W bs) {g : Nat} {cs : List Value} (hm : (g, cs) ∈ bs) : g < W.heap.size := (h.own hm).lt

/-- an answer that is an int, as a value -/
def IsI (W : World) (n : Int) (v : Value) : Prop := ∃ A c, v = .agg #[.bool (decide (n < 0)), .slice A (dg n.natAbs).length c] ∧ (dg n.natAbs).length ≤ c ∧ Rn W A (dg n.natAbs)

/-- the end of a call that stores an int into its result's cells -/
theorem end_int {w W : World} {bs : List (Nat × List Value)} {g : Nat} {n : Int} {A : Option Addr} {c : Nat} {x y : Value} (h : Fr w W ((g, [x, y]) :: bs)) (hx : ∀ z, Value.int .u32 z ≠ x) (hy : ∀ z, Value.int .u32 z ≠ y) (hg : w.heap.size ≤ g) (hc : (dg n.natAbs).length ≤ c) (hr : Rn W A (dg n.natAbs)) {W' : World}
    (hW : W' = (W.setCell ⟨g, 0, none⟩ (.bool (decide (n < 0)))).setCell ⟨g, 1, none⟩ (.slice A (dg n.natAbs).length c)) :
    ToldI w n (.returned (.agg #[.bool (decide (n < 0)), .slice A (dg n.natAbs).length c])) W' ∧ Own W' g [.bool (decide (n < 0)), .slice A (dg n.natAbs).length c] := by
  subst hW
  have ho := h.own (List.mem_cons_self ..)
  refine ⟨⟨A, c, rfl, hc, ?_, (h.1.setCell hg _).setCell hg _⟩, (ho.set 0 _).set 1 _⟩
  refine (hr.far ho ?_ 0 _).far (ho.set 0 _) ?_ 1 _
  · intro z hz
    rcases List.mem_cons.1 hz with h1 | h1
    · exact hx z h1
    · rcases List.mem_cons.1 h1 with h2 | h2
      · exact hy z h2
      · cases h2
  · intro z hz
    rcases List.mem_cons.1 hz with h1 | h1
    · cases h1
    · rcases List.mem_cons.1 h1 with h2 | h2
      · exact hy z h2
      · cases h2

/-- a number that is handed in: limbs in a row -/
structure In (w : World) (A : Option Addr) (c : Nat) (xs : List Int) : Prop where
  row : Rn w A xs
  lim : Lim xs
  cap : xs.length ≤ c
theorem In.below {w W : World} {A : Option Addr} {c : Nat} {xs : List Int} (h : In w A c xs) (hb : Below w.heap.size w W) : In W A c xs := ⟨Knd.Row.below hb h.row, h.lim, h.cap⟩
theorem In.dg {w : World} {A : Option Addr} {c n : Nat} (h : Rn w A (dg n)) (hc : (dg n).length ≤ c) : In w A c (dg n) := ⟨h, Lim_dg n, hc⟩
theorem In.nil (w : World) (A : Option Addr) (c : Nat) : In w A c [] := ⟨Rn.nil _ _, Lim.nil, Nat.zero_le _⟩
theorem iv_can (n : Int) : iv (decide (n < 0)) (V (dg n.natAbs)) = n := by
  rw [V_dg]; unfold iv; split
  · rename_i h; have := of_decide_eq_true h; omega
  · rename_i h; have : ¬ n < 0 := by simpa using h
    omega
theorem iv_natAbs {xs : List Int} (h : Lim xs) (s : Bool) : (iv s (V xs)).natAbs = (V xs).toNat := by
  have := V_nonneg h
  unfold iv; split <;> omega
theorem iv_lt {xs : List Int} (h : Lim xs) (s : Bool) : ((iv s (V xs)).natAbs : Int) < Bp xs.length := by
  rw [iv_natAbs h]
  have := V_nonneg h
  have := V_lt h
  omega
theorem dg_abs_le {n : Int} {k : Nat} (h : (n.natAbs : Int) < Bp k) : (dg n.natAbs).length ≤ k := dg_length_le h
theorem abs_mul_lt {m n : Int} {i j : Nat} (h : (m.natAbs : Int) < Bp i) (k : (n.natAbs : Int) < Bp j) : ((m * n).natAbs : Int) < Bp (i + j) := by
  rw [Int.natAbs_mul, Bp_add]
  push_cast
  have h1 : (m.natAbs : Int) * n.natAbs ≤ m.natAbs * Bp j := Int.mul_le_mul_of_nonneg_left (by omega) (by omega)
  have h2 : (m.natAbs : Int) * Bp j < Bp i * Bp j := Int.mul_lt_mul_of_pos_right h (Bp_pos j)
  omega
end Go.Proofs.YtidgpkccjcddgaaGreatDoor.F
