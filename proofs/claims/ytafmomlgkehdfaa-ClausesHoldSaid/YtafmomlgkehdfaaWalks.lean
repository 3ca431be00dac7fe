/- The walks of clauses.Holds and of its reference: both tell the first clause that the values do not make true. No condition. -/
import Derived.Test.YtafmomlgkehdfaaProg
import Derived.Test.YtafmomlgkehdfaaF
import Derived.Shelf.Abstract
import Derived.Lib.MinMax
set_option linter.unusedVariables false
set_option linter.unusedSimpArgs false
namespace Go.Proofs.Ytafmomlgkehdfaa.wk
open Go.RowKit Go.Shelf Go.Proofs.Ytafmomlgkehdfaa.F

theorem ret_bool {a b : Bool} (h : a = b) : Ending.returned (.bool a) = .returned (.bool b) := by rw [h]
theorem ret_int {k : IntKind} {a b : Int} (h : a = b) : Ending.returned (.int k a) = .returned (.int k b) := by rw [h]
/-- a literal: neither 0 nor the least integer -/
def lit (x : Int) : Bool := x != 0 && x != -9223372036854775808
theorem lit_true {x : Int} (h : lit x = true) : (x == 0) = false ∧ (x == -9223372036854775808) = false := by
  simpa [lit] using h
theorem lit_false {x : Int} (h : lit x = false) : (x == 0) = true ∨ ((x == 0) = false ∧ (x == -9223372036854775808) = true) := by
  unfold lit at h
  by_cases h0 : x = 0
  · left; simpa using h0
  · right
    refine ⟨by simpa using h0, ?_⟩
    simpa [h0] using h
/-- is a literal true? -/
def tr (x : Int) (vs : List Bool) : Bool := (vs.getD x.natAbs false) == decide (0 < x)

theorem literal (x : Int) (w : World) : Calls Try.prog 17 #[.int .i64 x] w fun e w' => e = .returned (.bool (lit x)) ∧ w' = w := by
  cases h : lit x with
  | true =>
    obtain ⟨a, b⟩ := lit_true h
    have a' : (x != 0) = true := by simpa using a
    have b' : (x != -9223372036854775808) = true := by simpa using b
    clear h
    go_enter Try.func17, Try.ntmps17
    go_wp2
    go_ret
    exact ⟨rfl, rfl⟩
  | false =>
    rcases lit_false h with a | ⟨a, b⟩
    · have a' : (x != 0) = false := by simpa using a
      clear h
      go_enter Try.func17, Try.ntmps17
      go_wp2
      go_ret
      exact ⟨rfl, rfl⟩
    · have a' : (x != 0) = true := by simpa using a
      have b' : (x != -9223372036854775808) = false := by simpa using b
      clear h
      go_enter Try.func17, Try.ntmps17
      go_wp2
      go_ret
      exact ⟨rfl, rfl⟩

theorem ref_literal (x : Int) (w : World) : Calls Try.prog 21 #[.int .i64 x] w fun e w' => e = .returned (.bool (lit x)) ∧ w' = w := by
  cases h : lit x with
  | true =>
    obtain ⟨a, b⟩ := lit_true h
    have a' : (x != 0) = true := by simpa using a
    have b' : (x != -9223372036854775808) = true := by simpa using b
    clear h
    go_enter Try.func21, Try.ntmps21
    go_wp2
    go_ret
    exact ⟨rfl, rfl⟩
  | false =>
    rcases lit_false h with a | ⟨a, b⟩
    · have a' : (x != 0) = false := by simpa using a
      clear h
      go_enter Try.func21, Try.ntmps21
      go_wp2
      go_ret
      exact ⟨rfl, rfl⟩
    · have a' : (x != 0) = true := by simpa using a
      have b' : (x != -9223372036854775808) = false := by simpa using b
      clear h
      go_enter Try.func21, Try.ntmps21
      go_wp2
      go_ret
      exact ⟨rfl, rfl⟩

theorem may1 (x : Int) (w : World) : Calls Try.prog 16 #[.int .i64 x] w fun e w' => e = .returned (.bool (!lit x)) ∧ w' = w := by
  go_enter Try.func16, Try.ntmps16
  go_wp2_with (go_at_call 17; refine (literal _ _).mono ?_; rintro e w' ⟨rfl, rfl⟩)
  go_ret
  exact ⟨rfl, rfl⟩


/-- r is the first place below n at which p holds; -1: there is none -/
def First (p : Nat → Bool) (n : Nat) (r : Int) : Prop :=
  (r = -1 ∧ ∀ j, j < n → p j = false) ∨ ∃ i, i < n ∧ r = (i : Int) ∧ p i = true ∧ ∀ j, j < i → p j = false
theorem First.nonneg {p : Nat → Bool} {n : Nat} {r : Int} (h : First p n r) : decide (0 ≤ r) = (List.range n).any p := by
  rcases h with ⟨rfl, h⟩ | ⟨i, hi, rfl, h, _⟩
  · rw [show (List.range n).any p = false from by simp; exact fun x hx => h x hx]; rfl
  · rw [show (List.range n).any p = true from by simp; exact ⟨i, hi, h⟩]; simp
theorem First.unique {p : Nat → Bool} {n : Nat} {r s : Int} (h : First p n r) (k : First p n s) : r = s := by
  rcases h with ⟨rfl, h⟩ | ⟨i, hi, rfl, h, h'⟩ <;> rcases k with ⟨rfl, k⟩ | ⟨j, hj, rfl, k, k'⟩
  · rfl
  · rw [h j hj] at k; cases k
  · rw [k i hi] at h; cases h
  · have : i = j := by
      rcases Nat.lt_trichotomy i j with c | c | c
      · rw [k' i c] at h; cases h
      · exact c
      · rw [h' j c] at k; cases k
    rw [this]

/-- what is asked of a function value: at each element, in any world that has only grown -/
def Pred (g : Nat) (lb : Array Value) (V : Nat → Value) (p : Nat → Bool) (n : Nat) (w : World) : Prop :=
  ∀ i, i < n → ∀ W : World, Below w.heap.size w W → Calls Try.prog g (#[V i] ++ lb) W fun e w' => e = .returned (.bool (p i)) ∧ Below w.heap.size w w'

set_option maxHeartbeats 1000000 in
theorem indexFunc18 (g : Nat) (lb : Array Value) (eg : ∀ args w, (callFunc g args).run Try.prog w = .ok (.enter g args) w) (V : Nat → Value) (p : Nat → Bool) (A : Option Addr) (n c : Nat) (w : World)
    (hn : n ≤ 9223372036854775807) (hc : ∀ i, i < n → ∃ ad, A = some ad ∧ w.cell? (ad.add i) = some (V i)) (hp : Pred g lb V p n w) :
    Calls Try.prog 18 #[.slice A n c, .func (.func g) #[] lb] w fun e w' => ∃ r, e = .returned (.int .i64 r) ∧ First p n r ∧ Below w.heap.size w w' := by
  have HC := Lib.hid hc
  clear hc
  go_enter Try.func18, Try.ntmps18
  go_wp2
  go_loopg [5, 8] n (fun gg _ s8 wr => ∃ k : Nat, k ≤ n ∧ n - k ≤ gg ∧ s8 = .int .i64 k ∧ Hid (Below w.heap.size w wr) ∧ Hid (∀ j, j < k → p j = false))
  case atStart => exact ⟨0, Nat.zero_le _, by omega, rfl, Below.refl _ w, fun j hj => absurd hj (Nat.not_lt_zero _)⟩
  case round =>
    obtain ⟨k, hk, hg, rfl, BW, A1⟩ := hrel
    by_cases hlt : k < n
    · have hltz : (k : Int) < (n : Int) := by omega
      obtain ⟨ad, rfl, hcell⟩ := HC.out k hlt
      have hcell' := cell_below BW.out hcell
      clear hcell
      have hcall := hp k hlt wr BW.out
      clear hp
      cases hq : p k with
      | true =>
        rw [hq] at hcall
        go_wp2_with fail
        refine hcall.mono ?_
        rintro e w' ⟨rfl, hb'⟩
        clear hcall
        go_wp2_with fail
        go_ret
        exact ⟨_, rfl, Or.inr ⟨k, hlt, rfl, hq, A1.out⟩, hb'⟩
      | false =>
        rw [hq] at hcall
        go_wp2_with fail
        refine hcall.mono ?_
        rintro e w' ⟨rfl, hb'⟩
        clear hcall
        go_wp2_with fail
        go_roundg (n - (k + 1))
        case measure => omega
        case rel =>
          refine ⟨k + 1, by omega, by omega, by go_num, hb', (show Hid _ from fun j hj => ?_)⟩
          by_cases e : j = k
          · subst e; exact hq
          · exact A1.out j (by omega)
    · have hltz : ¬ (k : Int) < (n : Int) := by omega
      have : k = n := by omega
      subst this
      go_wp2
      go_ret
      exact ⟨_, rfl, Or.inl ⟨rfl, A1.out⟩, BW.out⟩

set_option maxHeartbeats 1000000 in
theorem indexFunc9 (g : Nat) (lb : Array Value) (eg : ∀ args w, (callFunc g args).run Try.prog w = .ok (.enter g args) w) (V : Nat → Value) (p : Nat → Bool) (A : Option Addr) (n c : Nat) (w : World)
    (hn : n ≤ 9223372036854775807) (hc : ∀ i, i < n → ∃ ad, A = some ad ∧ w.cell? (ad.add i) = some (V i)) (hp : Pred g lb V p n w) :
    Calls Try.prog 9 #[.slice A n c, .func (.func g) #[] lb] w fun e w' => ∃ r, e = .returned (.int .i64 r) ∧ First p n r ∧ Below w.heap.size w w' := by
  have HC := Lib.hid hc
  clear hc
  go_enter Try.func9, Try.ntmps9
  go_wp2
  go_loopg [5, 8] n (fun gg _ s8 wr => ∃ k : Nat, k ≤ n ∧ n - k ≤ gg ∧ s8 = .int .i64 k ∧ Hid (Below w.heap.size w wr) ∧ Hid (∀ j, j < k → p j = false))
  case atStart => exact ⟨0, Nat.zero_le _, by omega, rfl, Below.refl _ w, fun j hj => absurd hj (Nat.not_lt_zero _)⟩
  case round =>
    obtain ⟨k, hk, hg, rfl, BW, A1⟩ := hrel
    by_cases hlt : k < n
    · have hltz : (k : Int) < (n : Int) := by omega
      obtain ⟨ad, rfl, hcell⟩ := HC.out k hlt
      have hcell' := cell_below BW.out hcell
      clear hcell
      have hcall := hp k hlt wr BW.out
      clear hp
      cases hq : p k with
      | true =>
        rw [hq] at hcall
        go_wp2_with fail
        refine hcall.mono ?_
        rintro e w' ⟨rfl, hb'⟩
        clear hcall
        go_wp2_with fail
        go_ret
        exact ⟨_, rfl, Or.inr ⟨k, hlt, rfl, hq, A1.out⟩, hb'⟩
      | false =>
        rw [hq] at hcall
        go_wp2_with fail
        refine hcall.mono ?_
        rintro e w' ⟨rfl, hb'⟩
        clear hcall
        go_wp2_with fail
        go_roundg (n - (k + 1))
        case measure => omega
        case rel =>
          refine ⟨k + 1, by omega, by omega, by go_num, hb', (show Hid _ from fun j hj => ?_)⟩
          by_cases e : j = k
          · subst e; exact hq
          · exact A1.out j (by omega)
    · have hltz : ¬ (k : Int) < (n : Int) := by omega
      have : k = n := by omega
      subst this
      go_wp2
      go_ret
      exact ⟨_, rfl, Or.inl ⟨rfl, A1.out⟩, BW.out⟩


theorem containsFunc11 (g : Nat) (lb : Array Value) (eg : ∀ args w, (callFunc g args).run Try.prog w = .ok (.enter g args) w) (V : Nat → Value) (p : Nat → Bool) (A : Option Addr) (n c : Nat) (w : World)
    (hn : n ≤ 9223372036854775807) (hc : ∀ i, i < n → ∃ ad, A = some ad ∧ w.cell? (ad.add i) = some (V i)) (hp : Pred g lb V p n w) :
    Calls Try.prog 11 #[.slice A n c, .func (.func g) #[] lb] w fun e w' => e = .returned (.bool ((List.range n).any p)) ∧ Below w.heap.size w w' := by
  have H := Lib.hid (indexFunc18 g lb eg V p A n c w hn hc hp)
  clear hc hp eg
  go_enter Try.func11, Try.ntmps11
  go_wp2_with fail
  refine H.out.mono ?_
  clear H
  rintro e w' ⟨r, rfl, hr, hb⟩
  have hr' := Lib.hid hr.nonneg
  clear hr
  go_wp2_with fail
  go_ret
  exact ⟨ret_bool hr'.out, hb⟩

theorem containsFunc6 (g : Nat) (lb : Array Value) (eg : ∀ args w, (callFunc g args).run Try.prog w = .ok (.enter g args) w) (V : Nat → Value) (p : Nat → Bool) (A : Option Addr) (n c : Nat) (w : World)
    (hn : n ≤ 9223372036854775807) (hc : ∀ i, i < n → ∃ ad, A = some ad ∧ w.cell? (ad.add i) = some (V i)) (hp : Pred g lb V p n w) :
    Calls Try.prog 6 #[.slice A n c, .func (.func g) #[] lb] w fun e w' => e = .returned (.bool ((List.range n).any p)) ∧ Below w.heap.size w w' := by
  have H := Lib.hid (indexFunc9 g lb eg V p A n c w hn hc hp)
  clear hc hp eg
  go_enter Try.func6, Try.ntmps6
  go_wp2_with fail
  refine H.out.mono ?_
  clear H
  rintro e w' ⟨r, rfl, hr, hb⟩
  have hr' := Lib.hid hr.nonneg
  clear hr
  go_wp2_with fail
  go_ret
  exact ⟨ret_bool hr'.out, hb⟩

theorem any_range {α : Type} (q : α → Bool) (d : α) (xs : List α) : ((List.range xs.length).any fun i => q (xs.getD i d)) = xs.any q := by
  rw [Bool.eq_iff_iff]
  simp only [List.any_eq_true, List.mem_range]
  constructor
  · rintro ⟨i, hi, h⟩
    exact ⟨xs[i], List.getElem_mem hi, by simpa [List.getD, List.getElem?_eq_getElem hi] using h⟩
  · rintro ⟨x, hx, h⟩
    obtain ⟨i, hi, rfl⟩ := List.getElem_of_mem hx
    exact ⟨i, hi, by simpa [List.getD, List.getElem?_eq_getElem hi] using h⟩

theorem any_range' {α : Type} (q : α → Bool) (d : α) (xs : List α) : ((List.range xs.length).any fun i => q (xs[i]?.getD d)) = xs.any q := any_range q d xs

theorem enters16 : ∀ args w, (callFunc 16 args).run Try.prog w = .ok (.enter 16 args) w := enters_of Try.func16 (by kernel_rfl) rfl
theorem enters7 : ∀ args w, (callFunc 7 args).run Try.prog w = .ok (.enter 7 args) w := enters_of Try.func7 (by kernel_rfl) rfl
theorem enters12 : ∀ args w, (callFunc 12 args).run Try.prog w = .ok (.enter 12 args) w := enters_of Try.func12 (by kernel_rfl) rfl
theorem enters10 : ∀ args w, (callFunc 10 args).run Try.prog w = .ok (.enter 10 args) w := enters_of Try.func10 (by kernel_rfl) rfl

/-- all literals -/
def lits (c : List Int) : Bool := c.all lit

theorem may (A : Option Addr) (c : Nat) (xs : List Int) (w : World) (h : (Knd.int .i64).Row w A xs) (hm : xs.length ≤ 9223372036854775807) :
    Calls Try.prog 8 #[.slice A xs.length c] w fun e w' => e = .returned (.bool (lits xs)) ∧ Below w.heap.size w w' := by
  have H := Lib.hid (containsFunc11 16 #[] enters16 (fun i => .int .i64 (xs.getD i 0)) (fun i => !lit (xs.getD i 0)) A xs.length c w hm
    (fun i hi => by obtain ⟨ad, e, hc⟩ := Knd.at_int h i hi; exact ⟨ad, e, by rw [hc]; simp [List.getD, List.getElem?_eq_getElem hi]⟩)
    (fun i _ W hb => (may1 _ W).mono fun e w' ⟨he, hw⟩ => ⟨he, hw ▸ hb⟩))
  clear h hm
  go_enter Try.func8, Try.ntmps8
  go_wp2_with fail
  refine H.out.mono ?_
  clear H
  rintro e w' ⟨rfl, hb⟩
  go_wp2_with fail
  go_ret
  refine ⟨ret_bool ?_, hb⟩
  rw [any_range' (fun x => !lit x)]
  simp [lits, List.all_eq_not_any_not]

theorem atom (x : Int) (hl : lit x = true) (hx0 : -9223372036854775808 ≤ x) (hx1 : x ≤ 9223372036854775807) (w : World) :
    Calls Try.prog 19 #[.int .i64 x] w fun e w' => e = .returned (.int .i64 (x.natAbs : Int)) ∧ w' = w := by
  have hne : -9223372036854775807 ≤ x := by
    have := (lit_true hl).2
    simp at this
    omega
  clear hl
  by_cases h : 0 ≤ x
  · go_enter Try.func19, Try.ntmps19
    go_wp2
    go_ret
    exact ⟨ret_int (by first | omega | (split <;> omega)), rfl⟩
  · go_enter Try.func19, Try.ntmps19
    go_wp2
    go_ret
    exact ⟨ret_int (by first | omega | (split <;> omega)), rfl⟩

theorem ref_atom (x : Int) (hl : lit x = true) (hx0 : -9223372036854775808 ≤ x) (hx1 : x ≤ 9223372036854775807) (w : World) :
    Calls Try.prog 22 #[.int .i64 x] w fun e w' => e = .returned (.int .i64 (x.natAbs : Int)) ∧ w' = w := by
  have hne : -9223372036854775807 ≤ x := by
    have := (lit_true hl).2
    simp at this
    omega
  clear hl
  by_cases h : x < 0
  · go_enter Try.func22, Try.ntmps22
    go_wp2
    go_ret
    exact ⟨ret_int (by omega), rfl⟩
  · go_enter Try.func22, Try.ntmps22
    go_wp2
    go_ret
    exact ⟨ret_int (by omega), rfl⟩

theorem tr_in {x : Int} {vs : List Bool} (h : x.natAbs < vs.length) : tr x vs = (vs[x.natAbs] == decide (0 < x)) := by
  simp [tr, List.getD, List.getElem?_eq_getElem h]
theorem tr_out {x : Int} {vs : List Bool} (h : ¬ x.natAbs < vs.length) : tr x vs = (false == decide (0 < x)) := by
  simp [tr, List.getD, List.getElem?_eq_none (show vs.length ≤ x.natAbs by omega)]

theorem holds (x : Int) (hl : lit x = true) (hx0 : -9223372036854775808 ≤ x) (hx1 : x ≤ 9223372036854775807) (A : Option Addr) (c : Nat) (vs : List Bool) (w : World) (h : Knd.bool.Row w A vs) (hm : vs.length ≤ 9223372036854775807) :
    Calls Try.prog 13 #[.int .i64 x, .slice A vs.length c] w fun e w' => e = .returned (.bool (tr x vs)) ∧ w' = w := by
  have H := Lib.hid (atom x hl hx0 hx1 w)
  clear hl
  by_cases hlt : x.natAbs < vs.length
  · obtain ⟨ad, rfl, hc⟩ := Knd.at_bool h _ hlt
    have ht := Lib.hid (tr_in hlt)
    clear h
    generalize vs[x.natAbs] = b at hc ht
    have hlt' : ((x.natAbs : Nat) : Int) < (vs.length : Int) := by omega
    go_enter Try.func13, Try.ntmps13
    go_wp2_with fail
    refine H.out.mono ?_
    clear H
    rintro e w' ⟨rfl, rfl⟩
    go_wp2
    go_ret
    exact ⟨ret_bool ht.out.symm, rfl⟩
  · have ht := Lib.hid (tr_out hlt)
    clear h
    have hlt' : ¬ ((x.natAbs : Nat) : Int) < (vs.length : Int) := by omega
    go_enter Try.func13, Try.ntmps13
    go_wp2_with fail
    refine H.out.mono ?_
    clear H
    rintro e w' ⟨rfl, rfl⟩
    go_wp2
    go_ret
    exact ⟨ret_bool (by rw [ht.out]; simp), rfl⟩


theorem holds21 (x : Int) (hl : lit x = true) (hx0 : -9223372036854775808 ≤ x) (hx1 : x ≤ 9223372036854775807) (B : Addr) (A : Option Addr) (c : Nat) (vs : List Bool) (w : World) (hB : w.cell? B = some (.slice A vs.length c)) (h : Knd.bool.Row w A vs) (hm : vs.length ≤ 9223372036854775807) :
    Calls Try.prog 12 #[.int .i64 x, .pointer (some B)] w fun e w' => e = .returned (.bool (tr x vs)) ∧ w' = w := by
  have H := Lib.hid (holds x hl hx0 hx1 A c vs w h hm)
  clear hl h
  go_enter Try.func12, Try.ntmps12
  go_wp2_with fail
  refine H.out.mono ?_
  clear H
  rintro e w' ⟨rfl, rfl⟩
  go_wp2
  go_ret
  exact ⟨rfl, rfl⟩

/-- a literal's bounds -/
def inI (x : Int) : Prop := -9223372036854775808 ≤ x ∧ x ≤ 9223372036854775807

theorem holds2 (xs : List Int) (hl : lits xs = true) (hx : ∀ x ∈ xs, inI x) (C : Option Addr) (k : Nat) (B : Addr) (A : Option Addr) (c : Nat) (vs : List Bool) (w : World) (hB : w.cell? B = some (.slice A vs.length c)) (h : Knd.bool.Row w A vs) (hm : vs.length ≤ 9223372036854775807)
    (hX : (Knd.int .i64).Row w C xs) (hmx : xs.length ≤ 9223372036854775807) :
    Calls Try.prog 10 #[.slice C xs.length k, .pointer (some B)] w fun e w' => e = .returned (.bool (!xs.any fun x => tr x vs)) ∧ Below w.heap.size w w' := by
  have H := Lib.hid (containsFunc11 12 #[.pointer (some B)] enters12 (fun i => .int .i64 (xs.getD i 0)) (fun i => tr (xs.getD i 0) vs) C xs.length k w hmx
    (fun i hi => by obtain ⟨ad, e, hc⟩ := Knd.at_int hX i hi; exact ⟨ad, e, by rw [hc]; simp [List.getD, List.getElem?_eq_getElem hi]⟩)
    (fun i hi W hb => by
      have hmem : xs.getD i 0 ∈ xs := by rw [show xs.getD i 0 = xs[i] from by simp [List.getD, List.getElem?_eq_getElem hi]]; exact List.getElem_mem hi
      refine (holds21 _ ((List.all_eq_true.1 hl) _ hmem) (hx _ hmem).1 (hx _ hmem).2 B A c vs W (cell_below hb hB) (h.below hb) hm).mono fun e w' ⟨he, hw⟩ => ⟨he, hw ▸ hb⟩))
  clear h hX hB hl hx
  go_enter Try.func10, Try.ntmps10
  go_wp2_with fail
  refine H.out.mono ?_
  clear H
  rintro e w' ⟨rfl, hb⟩
  go_wp2_with fail
  go_ret
  refine ⟨ret_bool ?_, hb⟩
  rw [any_range' (fun x => tr x vs)]

theorem holds1 (xs : List Int) (C : Option Addr) (k : Nat) (w : World) (hX : (Knd.int .i64).Row w C xs) (hmx : xs.length ≤ 9223372036854775807) :
    Calls Try.prog 7 #[.slice C xs.length k] w fun e w' => e = .returned (.bool (!lits xs)) ∧ Below w.heap.size w w' := by
  have H := Lib.hid (may C k xs w hX hmx)
  clear hX
  go_enter Try.func7, Try.ntmps7
  go_wp2_with fail
  refine H.out.mono ?_
  clear H
  rintro e w' ⟨rfl, hb⟩
  go_wp2_with fail
  go_ret
  exact ⟨rfl, hb⟩

/-- what Holds tells -/
def HoldsTells (l : List (List Int)) (vs : List Bool) (r : Int) (e : Int) : Prop :=
  if l.all lits = true then e = 0 ∧ First (fun i => !(l.getD i []).any fun x => tr x vs) l.length r else r = 0 ∧ e = 180
theorem HoldsTells.unique {l : List (List Int)} {vs : List Bool} {r e s f : Int} (h : HoldsTells l vs r e) (k : HoldsTells l vs s f) : r = s ∧ e = f := by
  unfold HoldsTells at h k
  split at h
  · rename_i hl
    rw [if_pos hl] at k
    exact ⟨h.2.unique k.2, by rw [h.1, k.1]⟩
  · rename_i hl
    rw [if_neg hl] at k
    exact ⟨by rw [h.1, k.1], by rw [h.2, k.2]⟩

set_option maxHeartbeats 1000000 in
theorem Holds (l : List (List Int)) (hx : ∀ c ∈ l, ∀ x ∈ c, inI x) (C : Option Addr) (k : Nat) (A : Option Addr) (c : Nat) (vs : List Bool) (w : World) (h : Knd.bool.Row w A vs) (hm : vs.length ≤ 9223372036854775807)
    (hL : (Knd.int .i64).slice.Row w C l) (hml : l.length ≤ 9223372036854775807) :
    Calls Try.prog 4 #[.slice C l.length k, .slice A vs.length c] w fun e w' => ∃ r f, e = .returned (.tuple #[.int .i64 r, .int .i64 f]) ∧ HoldsTells l vs r f ∧ Below w.heap.size w w' := by
  have hcl : ∀ i, i < l.length → ∃ V, (∃ ad, C = some ad ∧ w.cell? (ad.add i) = some V) ∧ ∃ D kk, V = .slice D (l.getD i []).length kk ∧ (Knd.int .i64).Row w D (l.getD i []) ∧ (l.getD i []).length ≤ 9223372036854775807 := by
    intro i hi
    obtain ⟨ad, D, kk, e, hc, _, hm', hr⟩ := Knd.at_slice hL i hi
    have e1 : l.getD i [] = l[i] := by simp [List.getD, List.getElem?_eq_getElem hi]
    exact ⟨_, ⟨ad, e, hc⟩, D, kk, by rw [e1], by rw [e1]; exact hr, by rw [e1]; exact hm'⟩
  have hcl' : ∃ V : Nat → Value, ∀ i, i < l.length → (∃ ad, C = some ad ∧ w.cell? (ad.add i) = some (V i)) ∧ ∃ D kk, V i = .slice D (l.getD i []).length kk ∧ (Knd.int .i64).Row w D (l.getD i []) ∧ (l.getD i []).length ≤ 9223372036854775807 := by
    refine ⟨fun i => if hi : i < l.length then (hcl i hi).choose else .nilIface, fun i hi => ?_⟩
    simp only [hi, dif_pos]
    exact (hcl i hi).choose_spec
  obtain ⟨V, hV⟩ := hcl'
  clear hcl hL
  have H1 := Lib.hid (fun (W : World) (hb : Below w.heap.size w W) => containsFunc6 7 #[] enters7 V (fun i => !lits (l.getD i [])) C l.length k W hml
    (fun i hi => by obtain ⟨⟨ad, e, hc⟩, _⟩ := hV i hi; exact ⟨ad, e, cell_below hb hc⟩)
    (fun i hi W' hb' => by
      obtain ⟨_, D, kk, e, hr, hm'⟩ := hV i hi
      rw [e]
      exact (holds1 _ D kk W' ((hr.below hb).below hb') hm').mono fun e w' ⟨he, hw⟩ => ⟨he, hb'.trans (hw.mono hb'.size)⟩))
  by_cases hl : l.all lits = true
  · have H2 := Lib.hid (fun (W : World) (B : Addr) (hb : Below w.heap.size w W) (hB : W.cell? B = some (.slice A vs.length c)) => indexFunc9 10 #[.pointer (some B)] enters10 V (fun i => !(l.getD i []).any fun x => tr x vs) C l.length k W hml
      (fun i hi => by obtain ⟨⟨ad, e, hc⟩, _⟩ := hV i hi; exact ⟨ad, e, cell_below hb hc⟩)
      (fun i hi W' hb' => by
        obtain ⟨_, D, kk, e, hr, hm'⟩ := hV i hi
        have hmem : l.getD i [] ∈ l := by rw [show l.getD i [] = l[i] from by simp [List.getD, List.getElem?_eq_getElem hi]]; exact List.getElem_mem hi
        rw [e]
        exact (holds2 _ ((List.all_eq_true.1 hl) _ hmem) (hx _ hmem) D kk B A c vs W' (cell_below hb' hB) ((h.below hb).below hb') hm ((hr.below hb).below hb') hm').mono fun e w' ⟨he, hw⟩ => ⟨he, hb'.trans (hw.mono hb'.size)⟩))
    have hany : Hid (((List.range l.length).any fun i => !lits (l.getD i [])) = false) := by
      show _ = _
      rw [any_range (fun x => !lits x)]
      rw [List.any_eq_false]
      intro x hx'
      simpa using (List.all_eq_true.1 hl) x hx'
    have Hl := Lib.hid hl
    clear hl hV h hx
    go_enter Try.func4, Try.ntmps4
    go_wp2_with fail
    refine (H1.out _ ((Below.refl _ _).alloc (Nat.le_refl _) _)).mono ?_
    clear H1
    rintro e w1 ⟨rfl, hb⟩
    rw [hany.out]
    clear hany
    have hB : w1.cell? ⟨w.heap.size, 0, none⟩ = some (.slice A vs.length c) := by
      rw [hb.cell (p := ⟨w.heap.size, 0, none⟩) (by simp)]
      simp [go_sem]
    have hb1 : Below w.heap.size w w1 := ((Below.refl _ _).alloc (Nat.le_refl _) _).trans (hb.mono (by simp))
    have HB1 := Lib.hid hb1
    have hB' := Lib.hid hB
    clear hb hb1 hB
    go_wp2_with fail
    refine (H2.out _ _ HB1.out hB'.out).mono ?_
    clear H2
    rintro e w2 ⟨r, rfl, hr, hb2⟩
    have hr' := Lib.hid hr
    clear hr
    have hb2' := Lib.hid (HB1.out.trans (hb2.mono HB1.out.size))
    clear HB1 hb2 hB'
    go_wp2
    go_ret2
    exact ⟨r, 0, rfl, by unfold HoldsTells; rw [if_pos Hl.out]; exact ⟨rfl, hr'.out⟩, hb2'.out⟩
  · have hany : Hid (((List.range l.length).any fun i => !lits (l.getD i [])) = true) := by
      show _ = _
      rw [any_range (fun x => !lits x)]
      simpa using hl
    have Hl := Lib.hid hl
    clear hl hV h hx
    go_enter Try.func4, Try.ntmps4
    go_wp2_with fail
    refine (H1.out _ ((Below.refl _ _).alloc (Nat.le_refl _) _)).mono ?_
    clear H1
    rintro e w1 ⟨rfl, hb⟩
    rw [hany.out]
    clear hany
    have hb1 := Lib.hid (((Below.refl w.heap.size w).alloc (Nat.le_refl _) _).trans (hb.mono (by simp)))
    clear hb
    go_wp2
    go_ret2
    exact ⟨0, 180, rfl, by unfold HoldsTells; rw [if_neg Hl.out]; exact ⟨rfl, rfl⟩, hb1.out⟩

theorem ref_literals (A : Option Addr) (c : Nat) (xs : List Int) (w : World) (h : (Knd.int .i64).Row w A xs) (hm : xs.length ≤ 9223372036854775807) :
    Calls Try.prog 14 #[.slice A xs.length c] w fun e w' => e = .returned (.bool (lits xs)) ∧ Below w.heap.size w w' := by
  have HX := Lib.hid h
  clear h
  go_enter Try.func14, Try.ntmps14
  go_wp2
  go_loopg [3] xs.length (fun gg s3 wr => ∃ k : Nat, k ≤ xs.length ∧ xs.length - k ≤ gg ∧ s3 = .int .i64 k ∧ Hid (Below w.heap.size w wr) ∧ Hid (∀ j (hj : j < xs.length), j < k → lit xs[j] = true))
  case atStart => exact ⟨0, Nat.zero_le _, by omega, rfl, Below.refl _ w, fun j _ hj => absurd hj (Nat.not_lt_zero _)⟩
  case round =>
    obtain ⟨k, hk, hg, rfl, BW, A1⟩ := hrel
    by_cases hlt : k < xs.length
    · have hltz : (k : Int) < (xs.length : Int) := by omega
      obtain ⟨ad, rfl, hcell⟩ := Knd.at_int HX.out k hlt
      have hcell' := cell_below BW.out hcell
      clear hcell
      cases hq : lit xs[k] with
      | true =>
        have HQ := Lib.hid hq
        obtain ⟨q1, q2⟩ := lit_true hq
        clear hq
        generalize hy : xs[k] = y at hcell' q1 q2
        clear hy
        go_wp2
        go_roundg (xs.length - (k + 1))
        case measure => omega
        case rel =>
          refine ⟨k + 1, by omega, by omega, by go_num, by first | exact BW | exact below_drewN BW _, (show Hid _ from fun j hj1 hj => ?_)⟩
          by_cases e : j = k
          · subst e; exact HQ.out
          · exact A1.out j hj1 (by omega)
      | false =>
        have HQ : Hid (lits xs = false) := by
          show _ = _
          rw [lits, List.all_eq_false]
          exact ⟨xs[k], List.getElem_mem hlt, by simp [hq]⟩
        rcases lit_false hq with q1 | ⟨q1, q2⟩
        · clear hq
          generalize hy : xs[k] = y at hcell' q1
          clear hy
          go_wp2
          go_ret
          exact ⟨ret_bool HQ.out.symm, by first | exact BW.out | exact below_drewN BW.out _⟩
        · clear hq
          generalize hy : xs[k] = y at hcell' q1 q2
          clear hy
          go_wp2
          go_ret
          exact ⟨ret_bool HQ.out.symm, by first | exact BW.out | exact below_drewN BW.out _⟩
    · have hltz : ¬ (k : Int) < (xs.length : Int) := by omega
      have HQ : Hid (lits xs = true) := by
        show _ = _
        rw [lits, List.all_eq_true]
        intro x hx
        obtain ⟨j, hj, rfl⟩ := List.getElem_of_mem hx
        exact A1.out j hj (by omega)
      go_wp2
      go_ret
      exact ⟨ret_bool HQ.out.symm, by first | exact BW.out | exact below_drewN BW.out _⟩

/-- a literal's truth, where it is one -/
def rtr (x : Int) (vs : List Bool) : Bool := lit x && tr x vs

theorem ref_true (x : Int) (hx0 : -9223372036854775808 ≤ x) (hx1 : x ≤ 9223372036854775807) (A : Option Addr) (c : Nat) (vs : List Bool) (w : World) (h : Knd.bool.Row w A vs) (hm : vs.length ≤ 9223372036854775807) :
    Calls Try.prog 20 #[.int .i64 x, .slice A vs.length c] w fun e w' => e = .returned (.bool (rtr x vs)) ∧ w' = w := by
  have H0 := Lib.hid (ref_literal x w)
  cases hl : lit x with
  | false =>
    have Hl := Lib.hid hl
    rw [hl] at H0
    clear h hl
    go_enter Try.func20, Try.ntmps20
    go_wp2_with fail
    refine H0.out.mono ?_
    clear H0
    rintro e w' ⟨rfl, rfl⟩
    go_wp2
    go_ret
    exact ⟨ret_bool (by rw [rtr, Hl.out]; rfl), rfl⟩
  | true =>
    have H := Lib.hid (ref_atom x hl hx0 hx1 w)
    have Hl := Lib.hid hl
    rw [hl] at H0
    clear hl
    by_cases hlt : x.natAbs < vs.length
    · obtain ⟨ad, rfl, hc⟩ := Knd.at_bool h _ hlt
      have ht := Lib.hid (tr_in hlt)
      clear h
      generalize vs[x.natAbs] = b at hc ht
      have hlt' : ((x.natAbs : Nat) : Int) < (vs.length : Int) := by omega
      go_enter Try.func20, Try.ntmps20
      go_wp2_with fail
      refine H0.out.mono ?_
      clear H0
      rintro e w' ⟨rfl, rfl⟩
      go_wp2_with fail
      refine H.out.mono ?_
      clear H
      rintro e w' ⟨rfl, rfl⟩
      go_wp2
      go_ret
      exact ⟨ret_bool (by rw [rtr, Hl.out, ht.out]; simp), rfl⟩
    · have ht := Lib.hid (tr_out hlt)
      clear h
      have hlt' : ¬ ((x.natAbs : Nat) : Int) < (vs.length : Int) := by omega
      go_enter Try.func20, Try.ntmps20
      go_wp2_with fail
      refine H0.out.mono ?_
      clear H0
      rintro e w' ⟨rfl, rfl⟩
      go_wp2_with fail
      refine H.out.mono ?_
      clear H
      rintro e w' ⟨rfl, rfl⟩
      go_wp2
      go_ret
      exact ⟨ret_bool (by rw [rtr, Hl.out, ht.out]; simp), rfl⟩


set_option maxHeartbeats 1000000 in
theorem ref_made (xs : List Int) (hx : ∀ x ∈ xs, inI x) (C : Option Addr) (k : Nat) (A : Option Addr) (c : Nat) (vs : List Bool) (w : World) (h : Knd.bool.Row w A vs) (hm : vs.length ≤ 9223372036854775807)
    (hX : (Knd.int .i64).Row w C xs) (hmx : xs.length ≤ 9223372036854775807) :
    Calls Try.prog 15 #[.slice C xs.length k, .slice A vs.length c] w fun e w' => e = .returned (.bool (xs.any fun x => rtr x vs)) ∧ Below w.heap.size w w' := by
  have HX := Lib.hid hX
  have HV := Lib.hid h
  have HI := Lib.hid hx
  clear h hX hx
  go_enter Try.func15, Try.ntmps15
  go_wp2
  go_loopg [5] xs.length (fun gg s3 wr => ∃ k : Nat, k ≤ xs.length ∧ xs.length - k ≤ gg ∧ s3 = .int .i64 k ∧ Hid (Below w.heap.size w wr) ∧ Hid (∀ j (hj : j < xs.length), j < k → rtr xs[j] vs = false))
  case atStart => exact ⟨0, Nat.zero_le _, by omega, rfl, Below.refl _ w, fun j _ hj => absurd hj (Nat.not_lt_zero _)⟩
  case round =>
    obtain ⟨k, hk, hg, rfl, BW, A1⟩ := hrel
    by_cases hlt : k < xs.length
    · have hltz : (k : Int) < (xs.length : Int) := by omega
      obtain ⟨ad, rfl, hcell⟩ := Knd.at_int HX.out k hlt
      have hcell' := cell_below BW.out hcell
      clear hcell
      have hcall := Lib.hid (fun n => ref_true xs[k] (HI.out _ (List.getElem_mem hlt)).1 (HI.out _ (List.getElem_mem hlt)).2 A c vs (wr.drewN n) (HV.out.below (below_drewN BW.out n)) hm)
      cases hq : rtr xs[k] vs with
      | true =>
        have HQ : Hid ((xs.any fun x => rtr x vs) = true) := by
          show _ = _
          rw [List.any_eq_true]
          exact ⟨_, List.getElem_mem hlt, hq⟩
        rw [hq] at hcall
        clear hq
        generalize hy : xs[k] = y at hcell' hcall
        clear hy
        go_wp2_with fail
        refine (hcall.out 0).mono ?_
        clear hcall
        rintro e w' ⟨rfl, rfl⟩
        go_wp2
        go_ret
        exact ⟨ret_bool HQ.out.symm, by first | exact BW.out | exact below_drewN BW.out _⟩
      | false =>
        have HQ := Lib.hid hq
        rw [hq] at hcall
        clear hq
        generalize hy : xs[k] = y at hcell' hcall
        have HY := Lib.hid hy
        clear hy
        go_wp2_with fail
        refine (hcall.out 0).mono ?_
        clear hcall
        rintro e w' ⟨rfl, rfl⟩
        go_wp2
        go_roundg (xs.length - (k + 1))
        case measure => omega
        case rel =>
          refine ⟨k + 1, by omega, by omega, by go_num, by first | exact BW | exact below_drewN BW _, (show Hid _ from fun j hj1 hj => ?_)⟩
          by_cases e : j = k
          · subst e; exact HQ.out
          · exact A1.out j hj1 (by omega)
    · have hltz : ¬ (k : Int) < (xs.length : Int) := by omega
      have HQ : Hid ((xs.any fun x => rtr x vs) = false) := by
        show _ = _
        rw [List.any_eq_false]
        intro x hx
        obtain ⟨j, hj, rfl⟩ := List.getElem_of_mem hx
        simpa using A1.out j hj (by omega)
      go_wp2
      go_ret
      exact ⟨ret_bool HQ.out.symm, by first | exact BW.out | exact below_drewN BW.out _⟩

theorem any_rtr {xs : List Int} (h : lits xs = true) (vs : List Bool) : (xs.any fun x => rtr x vs) = xs.any fun x => tr x vs := by
  rw [Bool.eq_iff_iff]
  simp only [List.any_eq_true, rtr, Bool.and_eq_true]
  constructor
  · rintro ⟨x, hx, _, h2⟩; exact ⟨x, hx, h2⟩
  · rintro ⟨x, hx, h2⟩; exact ⟨x, hx, (List.all_eq_true.1 h) x hx, h2⟩

theorem getD_get {α : Type} {l : List α} {i : Nat} (hi : i < l.length) (d : α) : l.getD i d = l[i] := by simp [List.getD, List.getElem?_eq_getElem hi]

set_option maxHeartbeats 2000000 in
theorem ref_Holds (l : List (List Int)) (hx : ∀ c ∈ l, ∀ x ∈ c, inI x) (C : Option Addr) (k : Nat) (A : Option Addr) (c : Nat) (vs : List Bool) (w : World) (h : Knd.bool.Row w A vs) (hm : vs.length ≤ 9223372036854775807)
    (hL : (Knd.int .i64).slice.Row w C l) (hml : l.length ≤ 9223372036854775807) :
    Calls Try.prog 5 #[.slice C l.length k, .slice A vs.length c] w fun e w' => ∃ r f, e = .returned (.tuple #[.int .i64 r, .int .i64 f]) ∧ HoldsTells l vs r f ∧ Below w.heap.size w w' := by
  have HX := Lib.hid hL
  have HV := Lib.hid h
  have HI := Lib.hid hx
  clear h hL hx
  go_enter Try.func5, Try.ntmps5
  go_wp2
  go_loopg [6, 7] l.length (fun gg s3 _ wr => ∃ k : Nat, k ≤ l.length ∧ l.length - k ≤ gg ∧ s3 = .int .i64 k ∧ Hid (Below w.heap.size w wr) ∧ Hid (∀ j (hj : j < l.length), j < k → lits l[j] = true))
  case atStart => exact ⟨0, Nat.zero_le _, by omega, rfl, Below.refl _ w, fun j _ hj => absurd hj (Nat.not_lt_zero _)⟩
  case round =>
    obtain ⟨k, hk, hg, rfl, BW, A1⟩ := hrel
    by_cases hlt : k < l.length
    · have hltz : (k : Int) < (l.length : Int) := by omega
      obtain ⟨ad, D, kk, rfl, hcell, _, hm', hr⟩ := Knd.at_slice HX.out k hlt
      have hcell' := cell_below BW.out hcell
      clear hcell
      have hcall := Lib.hid (ref_literals D kk l[k] wr (hr.below BW.out) hm')
      clear hr hm'
      cases hq : lits l[k] with
      | true =>
        have HQ := Lib.hid hq
        rw [hq] at hcall
        clear hq
        go_wp2_with fail
        refine hcall.out.mono ?_
        clear hcall
        rintro e w' ⟨rfl, hb⟩
        have hb' := Lib.hid (BW.out.trans (hb.mono BW.out.size))
        clear hb
        go_wp2
        go_roundg (l.length - (k + 1))
        case measure => omega
        case rel =>
          refine ⟨k + 1, by omega, by omega, by go_num, hb', (show Hid _ from fun j hj1 hj => ?_)⟩
          by_cases e : j = k
          · subst e; exact HQ.out
          · exact A1.out j hj1 (by omega)
      | false =>
        have HQ : Hid (¬ l.all lits = true) := by
          show ¬ _
          intro h
          have := (List.all_eq_true.1 h) _ (List.getElem_mem hlt)
          rw [hq] at this
          cases this
        rw [hq] at hcall
        clear hq
        go_wp2_with fail
        refine hcall.out.mono ?_
        clear hcall
        rintro e w' ⟨rfl, hb⟩
        have hb' := Lib.hid (BW.out.trans (hb.mono BW.out.size))
        clear hb
        go_wp2
        go_ret2
        exact ⟨0, 180, rfl, by unfold HoldsTells; rw [if_neg HQ.out]; exact ⟨rfl, rfl⟩, hb'.out⟩
    · have hltz : ¬ (k : Int) < (l.length : Int) := by omega
      have HL : Hid (l.all lits = true) := by
        show _ = _
        rw [List.all_eq_true]
        intro x hx
        obtain ⟨j, hj, rfl⟩ := List.getElem_of_mem hx
        exact A1.out j hj (by omega)
      clear A1 hlt hk hg
      go_wp2
      go_loopg [8, 9] l.length (fun gg s3 _ wr => ∃ k : Nat, k ≤ l.length ∧ l.length - k ≤ gg ∧ s3 = .int .i64 k ∧ Hid (Below w.heap.size w wr) ∧ Hid (∀ j, j < k → ((l.getD j []).any fun x => tr x vs) = true))
      case atStart => exact ⟨0, Nat.zero_le _, by omega, rfl, BW, fun j hj => absurd hj (Nat.not_lt_zero _)⟩
      case round =>
        clear BW hltz
        obtain ⟨k, hk, hg, rfl, BW, A1⟩ := hrel
        by_cases hlt : k < l.length
        · have hltz : (k : Int) < (l.length : Int) := by omega
          obtain ⟨ad, D, kk, rfl, hcell, _, hm', hr⟩ := Knd.at_slice HX.out k hlt
          have hcell' := cell_below BW.out hcell
          clear hcell
          have hmem := List.getElem_mem hlt
          have hcall := Lib.hid (ref_made l[k] (HI.out _ hmem) D kk A c vs _ (HV.out.below BW.out) hm (hr.below BW.out) hm')
          rw [any_rtr ((List.all_eq_true.1 HL.out) _ hmem)] at hcall
          clear hr hm' hmem
          cases hq : l[k].any fun x => tr x vs with
          | true =>
            have HQ : Hid (((l.getD k []).any fun x => tr x vs) = true) := by
              show _ = _
              rw [getD_get hlt]; exact hq
            rw [hq] at hcall
            clear hq
            go_wp2_with fail
            refine hcall.out.mono ?_
            clear hcall
            rintro e w' ⟨rfl, hb⟩
            have hb' := Lib.hid (BW.out.trans (hb.mono BW.out.size))
            clear hb
            go_wp2
            go_roundg (l.length - (k + 1))
            case measure => omega
            case rel =>
              refine ⟨k + 1, by omega, by omega, by go_num, hb', (show Hid _ from fun j hj => ?_)⟩
              by_cases e : j = k
              · subst e; exact HQ.out
              · exact A1.out j (by omega)
          | false =>
            have HQ : Hid (((l.getD k []).any fun x => tr x vs) = false) := by
              show _ = _
              rw [getD_get hlt]; exact hq
            rw [hq] at hcall
            clear hq
            go_wp2_with fail
            refine hcall.out.mono ?_
            clear hcall
            rintro e w' ⟨rfl, hb⟩
            have hb' := Lib.hid (BW.out.trans (hb.mono BW.out.size))
            clear hb
            go_wp2
            go_ret2
            exact ⟨k, 0, rfl, by
              unfold HoldsTells
              rw [if_pos HL.out]
              exact ⟨rfl, Or.inr ⟨k, hlt, rfl, by simp only [HQ.out]; rfl, fun j hj => by simp only [A1.out j hj]; rfl⟩⟩, hb'.out⟩
        · have hltz : ¬ (k : Int) < (l.length : Int) := by omega
          have hkl : Hid (k = l.length) := by show _ = _; omega
          go_wp2
          go_ret2
          exact ⟨-1, 0, rfl, by
              unfold HoldsTells
              rw [if_pos HL.out]
              exact ⟨rfl, Or.inl ⟨rfl, fun j hj => by simp only [A1.out j (by rw [hkl.out]; exact hj)]; rfl⟩⟩, BW.out⟩

set_option maxHeartbeats 1000000 in
theorem law (l : List (List Int)) (hx : ∀ c ∈ l, ∀ x ∈ c, inI x) (C : Option Addr) (k : Nat) (A : Option Addr) (c : Nat) (vs : List Bool) (w : World) (h : Knd.bool.Row w A vs) (hm : vs.length ≤ 9223372036854775807)
    (hL : (Knd.int .i64).slice.Row w C l) (hml : l.length ≤ 9223372036854775807) :
    Calls Try.prog 3 #[.slice C l.length k, .slice A vs.length c] w fun e w' => e = .returned (.bool true) ∧ Below w.heap.size w w' := by
  have H1 := Lib.hid (Holds l hx C k A c vs w h hm hL hml)
  have H2 := Lib.hid (fun (W : World) (hb : Below w.heap.size w W) => ref_Holds l hx C k A c vs W (h.below hb) hm (hL.below hb) hml)
  clear h hL hx
  go_enter Try.func3, Try.ntmps3
  go_wp2_with fail
  refine H1.out.mono ?_
  clear H1
  rintro e w1 ⟨r, f, rfl, ht, hb⟩
  have HT := Lib.hid ht
  have HB := Lib.hid hb
  clear ht hb
  go_wp2_with fail
  refine (H2.out _ HB.out).mono ?_
  clear H2
  rintro e w2 ⟨s, g, rfl, ht, hb⟩
  obtain ⟨rfl, rfl⟩ := HT.out.unique ht
  have HB2 := Lib.hid (HB.out.trans (hb.mono HB.out.size))
  clear ht hb HT HB
  go_wp2
  go_ret
  exact ⟨ret_bool (by simp), HB2.out⟩

end Go.Proofs.Ytafmomlgkehdfaa.wk
