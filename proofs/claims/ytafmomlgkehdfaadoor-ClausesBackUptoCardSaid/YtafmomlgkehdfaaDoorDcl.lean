/- The walks of package clauses that Dimacs needs: literals, atoms, whether a clause may be. -/
import Derived.Test.YtafmomlgkehdfaaDoorDtx
import Derived.Test.YtafmomlgkehdfaaDoorOpen
set_option linter.unusedVariables false
set_option linter.unusedSimpArgs false
namespace Go.Proofs.YtafmomlgkehdfaaDoor.F
open Go.RowKit Go.Shelf

/-- a literal: neither 0 nor the least integer -/
def lit (x : Int) : Bool := x != 0 && x != -9223372036854775808
theorem lit_true {x : Int} (h : lit x = true) : (x == 0) = false ∧ (x == -9223372036854775808) = false := by
  simpa [lit] using h
theorem lit_false {x : Int} (h : lit x = false) : (x == 0) = true ∨ ((x == 0) = false ∧ (x == -9223372036854775808) = true) := by
  unfold lit at h
  by_cases h0 : x = 0
  · left; simpa using h0
  · right
    refine ⟨by simpa using h0, ?_⟩
    simpa [h0] using h

theorem literal (x : Int) (w : World) : Calls Tryd.prog 28 #[.int .i64 x] w fun e w' => e = .returned (.bool (lit x)) ∧ w' = w := by
  cases h : lit x with
  | true =>
    obtain ⟨a, b⟩ := lit_true h
    have a' : (x != 0) = true := by simpa using a
    have b' : (x != -9223372036854775808) = true := by simpa using b
    clear h
    go_enter Tryd.func28, Tryd.ntmps28
    go_wp2
    go_ret
    exact ⟨rfl, rfl⟩
  | false =>
    rcases lit_false h with a | ⟨a, b⟩
    · have a' : (x != 0) = false := by simpa using a
      clear h
      go_enter Tryd.func28, Tryd.ntmps28
      go_wp2
      go_ret
      exact ⟨rfl, rfl⟩
    · have a' : (x != 0) = true := by simpa using a
      have b' : (x != -9223372036854775808) = false := by simpa using b
      clear h
      go_enter Tryd.func28, Tryd.ntmps28
      go_wp2
      go_ret
      exact ⟨rfl, rfl⟩

theorem ref_literal (x : Int) (w : World) : Calls Tryd.prog 17 #[.int .i64 x] w fun e w' => e = .returned (.bool (lit x)) ∧ w' = w := by
  cases h : lit x with
  | true =>
    obtain ⟨a, b⟩ := lit_true h
    have a' : (x != 0) = true := by simpa using a
    have b' : (x != -9223372036854775808) = true := by simpa using b
    clear h
    go_enter Tryd.func17, Tryd.ntmps17
    go_wp2
    go_ret
    exact ⟨rfl, rfl⟩
  | false =>
    rcases lit_false h with a | ⟨a, b⟩
    · have a' : (x != 0) = false := by simpa using a
      clear h
      go_enter Tryd.func17, Tryd.ntmps17
      go_wp2
      go_ret
      exact ⟨rfl, rfl⟩
    · have a' : (x != 0) = true := by simpa using a
      have b' : (x != -9223372036854775808) = false := by simpa using b
      clear h
      go_enter Tryd.func17, Tryd.ntmps17
      go_wp2
      go_ret
      exact ⟨rfl, rfl⟩

theorem may1 (x : Int) (w : World) : Calls Tryd.prog 27 #[.int .i64 x] w fun e w' => e = .returned (.bool (!lit x)) ∧ w' = w := by
  go_enter Tryd.func27, Tryd.ntmps27
  go_wp2_with (go_at_call 28; refine (literal _ _).mono ?_; rintro e w' ⟨rfl, rfl⟩)
  go_ret
  exact ⟨rfl, rfl⟩


/-- r is the first place below n at which p holds; -1: there is none -/
def First (p : Nat → Bool) (n : Nat) (r : Int) : Prop :=
  (r = -1 ∧ ∀ j, j < n → p j = false) ∨ ∃ i, i < n ∧ r = (i : Int) ∧ p i = true ∧ ∀ j, j < i → p j = false
theorem First.nonneg {p : Nat → Bool} {n : Nat} {r : Int} (h : First p n r) : decide (0 ≤ r) = (List.range n).any p := by
  rcases h with ⟨rfl, h⟩ | ⟨i, hi, rfl, h, _⟩
  · rw [show (List.range n).any p = false from by simp; exact fun x hx => h x hx]; rfl
  · rw [show (List.range n).any p = true from by simp; exact ⟨i, hi, h⟩]; simp
theorem First.unique {p : Nat → Bool} {n : Nat} {r s : Int} (h : First p n r) (k : First p n s) : r = s := by
  rcases h with ⟨rfl, h⟩ | ⟨i, hi, rfl, h, h'⟩ <;> rcases k with ⟨rfl, k⟩ | ⟨j, hj, rfl, k, k'⟩
  · rfl
  · rw [h j hj] at k; cases k
  · rw [k i hi] at h; cases h
  · have : i = j := by
      rcases Nat.lt_trichotomy i j with c | c | c
      · rw [k' i c] at h; cases h
      · exact c
      · rw [h' j c] at k; cases k
    rw [this]

/-- what is asked of a function value: at each element, in any world that has only grown -/
def Pred (g : Nat) (lb : Array Value) (V : Nat → Value) (p : Nat → Bool) (n : Nat) (w : World) : Prop :=
  ∀ i, i < n → ∀ W : World, Below w.heap.size w W → Calls Tryd.prog g (#[V i] ++ lb) W fun e w' => e = .returned (.bool (p i)) ∧ Below w.heap.size w w'

set_option maxHeartbeats 1000000 in
theorem indexFunc (g : Nat) (lb : Array Value) (eg : ∀ args w, (callFunc g args).run Tryd.prog w = .ok (.enter g args) w) (V : Nat → Value) (p : Nat → Bool) (A : Option Addr) (n c : Nat) (w : World)
    (hn : n ≤ 9223372036854775807) (hc : ∀ i, i < n → ∃ ad, A = some ad ∧ w.cell? (ad.add i) = some (V i)) (hp : Pred g lb V p n w) :
    Calls Tryd.prog 29 #[.slice A n c, .func (.func g) #[] lb] w fun e w' => ∃ r, e = .returned (.int .i64 r) ∧ First p n r ∧ Below w.heap.size w w' := by
  have HC := Lib.hid hc
  clear hc
  go_enter Tryd.func29, Tryd.ntmps29
  go_wp2
  go_loopg [5, 8] n (fun gg _ s8 wr => ∃ k : Nat, k ≤ n ∧ n - k ≤ gg ∧ s8 = .int .i64 k ∧ Hid (Below w.heap.size w wr) ∧ Hid (∀ j, j < k → p j = false))
  case atStart => exact ⟨0, Nat.zero_le _, by omega, rfl, Below.refl _ w, fun j hj => absurd hj (Nat.not_lt_zero _)⟩
  case round =>
    obtain ⟨k, hk, hg, rfl, BW, A1⟩ := hrel
    by_cases hlt : k < n
    · have hltz : (k : Int) < (n : Int) := by omega
      obtain ⟨ad, rfl, hcell⟩ := HC.out k hlt
      have hcell' := cell_below BW.out hcell
      clear hcell
      have hcall := hp k hlt wr BW.out
      clear hp
      cases hq : p k with
      | true =>
        rw [hq] at hcall
        go_wp2_with fail
        refine hcall.mono ?_
        rintro e w' ⟨rfl, hb'⟩
        clear hcall
        go_wp2_with fail
        go_ret
        exact ⟨_, rfl, Or.inr ⟨k, hlt, rfl, hq, A1.out⟩, hb'⟩
      | false =>
        rw [hq] at hcall
        go_wp2_with fail
        refine hcall.mono ?_
        rintro e w' ⟨rfl, hb'⟩
        clear hcall
        go_wp2_with fail
        go_roundg (n - (k + 1))
        case measure => omega
        case rel =>
          refine ⟨k + 1, by omega, by omega, by go_num, hb', (show Hid _ from fun j hj => ?_)⟩
          by_cases e : j = k
          · subst e; exact hq
          · exact A1.out j (by omega)
    · have hltz : ¬ (k : Int) < (n : Int) := by omega
      have : k = n := by omega
      subst this
      go_wp2
      go_ret
      exact ⟨_, rfl, Or.inl ⟨rfl, A1.out⟩, BW.out⟩

theorem containsFunc (g : Nat) (lb : Array Value) (eg : ∀ args w, (callFunc g args).run Tryd.prog w = .ok (.enter g args) w) (V : Nat → Value) (p : Nat → Bool) (A : Option Addr) (n c : Nat) (w : World)
    (hn : n ≤ 9223372036854775807) (hc : ∀ i, i < n → ∃ ad, A = some ad ∧ w.cell? (ad.add i) = some (V i)) (hp : Pred g lb V p n w) :
    Calls Tryd.prog 13 #[.slice A n c, .func (.func g) #[] lb] w fun e w' => e = .returned (.bool ((List.range n).any p)) ∧ Below w.heap.size w w' := by
  have H := Lib.hid (indexFunc g lb eg V p A n c w hn hc hp)
  clear hc hp eg
  go_enter Tryd.func13, Tryd.ntmps13
  go_wp2_with fail
  refine H.out.mono ?_
  clear H
  rintro e w' ⟨r, rfl, hr, hb⟩
  have hr' := Lib.hid hr.nonneg
  clear hr
  go_wp2_with fail
  go_ret
  exact ⟨ret_bool hr'.out, hb⟩

theorem any_range {α : Type} (q : α → Bool) (d : α) (xs : List α) : ((List.range xs.length).any fun i => q (xs.getD i d)) = xs.any q := by
  rw [Bool.eq_iff_iff]
  simp only [List.any_eq_true, List.mem_range]
  constructor
  · rintro ⟨i, hi, h⟩
    exact ⟨xs[i], List.getElem_mem hi, by simpa [List.getD, List.getElem?_eq_getElem hi] using h⟩
  · rintro ⟨x, hx, h⟩
    obtain ⟨i, hi, rfl⟩ := List.getElem_of_mem hx
    exact ⟨i, hi, by simpa [List.getD, List.getElem?_eq_getElem hi] using h⟩

theorem any_range' {α : Type} (q : α → Bool) (d : α) (xs : List α) : ((List.range xs.length).any fun i => q (xs[i]?.getD d)) = xs.any q := any_range q d xs

theorem entersMay : ∀ args w, (callFunc 27 args).run Tryd.prog w = .ok (.enter 27 args) w := enters_of Tryd.func27 (by kernel_rfl) rfl
/-- all literals -/
def lits (c : List Int) : Bool := c.all lit

theorem may (A : Option Addr) (c : Nat) (xs : List Int) (w : World) (h : (Knd.int .i64).Row w A xs) (hm : xs.length ≤ 9223372036854775807) :
    Calls Tryd.prog 12 #[.slice A xs.length c] w fun e w' => e = .returned (.bool (lits xs)) ∧ Below w.heap.size w w' := by
  have H := Lib.hid (containsFunc 27 #[] entersMay (fun i => .int .i64 (xs.getD i 0)) (fun i => !lit (xs.getD i 0)) A xs.length c w hm
    (fun i hi => by obtain ⟨ad, e, hc⟩ := Knd.at_int h i hi; exact ⟨ad, e, by rw [hc]; simp [List.getD, List.getElem?_eq_getElem hi]⟩)
    (fun i _ W hb => (may1 _ W).mono fun e w' ⟨he, hw⟩ => ⟨he, hw ▸ hb⟩))
  clear h hm
  go_enter Tryd.func12, Tryd.ntmps12
  go_wp2_with fail
  refine H.out.mono ?_
  clear H
  rintro e w' ⟨rfl, hb⟩
  go_wp2_with fail
  go_ret
  refine ⟨ret_bool ?_, hb⟩
  rw [any_range' (fun x => !lit x)]
  simp [lits, List.all_eq_not_any_not]

theorem atom (x : Int) (hl : lit x = true) (hx0 : -9223372036854775808 ≤ x) (hx1 : x ≤ 9223372036854775807) (w : World) :
    Calls Tryd.prog 15 #[.int .i64 x] w fun e w' => e = .returned (.int .i64 (x.natAbs : Int)) ∧ w' = w := by
  have hne : -9223372036854775807 ≤ x := by
    have := (lit_true hl).2
    simp at this
    omega
  clear hl
  by_cases h : 0 ≤ x
  · go_enter Tryd.func15, Tryd.ntmps15
    go_wp2
    go_ret
    exact ⟨ret_int (by first | omega | (split <;> omega)), rfl⟩
  · go_enter Tryd.func15, Tryd.ntmps15
    go_wp2
    go_ret
    exact ⟨ret_int (by first | omega | (split <;> omega)), rfl⟩

theorem ref_atom (x : Int) (hl : lit x = true) (hx0 : -9223372036854775808 ≤ x) (hx1 : x ≤ 9223372036854775807) (w : World) :
    Calls Tryd.prog 18 #[.int .i64 x] w fun e w' => e = .returned (.int .i64 (x.natAbs : Int)) ∧ w' = w := by
  have hne : -9223372036854775807 ≤ x := by
    have := (lit_true hl).2
    simp at this
    omega
  clear hl
  by_cases h : x < 0
  · go_enter Tryd.func18, Tryd.ntmps18
    go_wp2
    go_ret
    exact ⟨ret_int (by omega), rfl⟩
  · go_enter Tryd.func18, Tryd.ntmps18
    go_wp2
    go_ret
    exact ⟨ret_int (by omega), rfl⟩

theorem entersTop : ∀ args w, (callFunc 14 args).run Tryd.prog w = .ok (.enter 14 args) w := enters_of Tryd.func14 (by kernel_rfl) rfl
theorem top1 (x a : Int) (hl : lit x = true) (hx0 : -9223372036854775808 ≤ x) (hx1 : x ≤ 9223372036854775807) (B : Addr) (w : World) (hB : w.cell? B = some (.int .i64 a)) :
    Calls Tryd.prog 14 #[.int .i64 x, .pointer (some B)] w fun e w' => e = .returned (.bool (decide (a < (x.natAbs : Int)))) ∧ Below w.heap.size w w' := by
  have hA := Lib.hid (fun W => atom x hl hx0 hx1 W)
  clear hl
  go_enter Tryd.func14, Tryd.ntmps14
  have hAx := hA.out
  go_wp2_with fail
  go_quiet (first | (go_at_call 15; refine Calls.quiet_of_same (hAx _)))
  go_wp2
  go_ret
  exact ⟨rfl, below_drewN (Below.refl _ _) _⟩

/-- a literal's bounds -/
def inI (x : Int) : Prop := -9223372036854775808 ≤ x ∧ x ≤ 9223372036854775807
theorem containsTop (a : Int) (xs : List Int) (hl : lits xs = true) (hx : ∀ x ∈ xs, inI x) (C : Option Addr) (k : Nat) (B : Addr) (w : World) (hB : w.cell? B = some (.int .i64 a)) (hX : (Knd.int .i64).Row w C xs) (hmx : xs.length ≤ 9223372036854775807) :
    Calls Tryd.prog 13 #[.slice C xs.length k, .func (.func 14) #[] #[.pointer (some B)]] w fun e w' => e = .returned (.bool (xs.any fun x => decide (a < (x.natAbs : Int)))) ∧ Below w.heap.size w w' := by
  have H := containsFunc 14 #[.pointer (some B)] entersTop (fun i => .int .i64 (xs.getD i 0)) (fun i => decide (a < ((xs.getD i 0).natAbs : Int))) C xs.length k w hmx
    (fun i hi => by obtain ⟨ad, e, hc⟩ := Knd.at_int hX i hi; exact ⟨ad, e, by rw [hc]; simp [List.getD, List.getElem?_eq_getElem hi]⟩)
    (fun i hi W hb => by
      have hmem : xs.getD i 0 ∈ xs := by rw [show xs.getD i 0 = xs[i] from by simp [List.getD, List.getElem?_eq_getElem hi]]; exact List.getElem_mem hi
      exact (top1 _ a ((List.all_eq_true.1 hl) _ hmem) (hx _ hmem).1 (hx _ hmem).2 B W (cell_below hb hB)).mono fun e w' ⟨he, hw⟩ => ⟨he, hb.trans (hw.mono hb.size)⟩)
  exact H.mono fun e w' ⟨he, hw⟩ => ⟨he.trans (ret_bool (any_range (fun x => decide (a < (x.natAbs : Int))) 0 xs)), hw⟩
end Go.Proofs.YtafmomlgkehdfaaDoor.F
