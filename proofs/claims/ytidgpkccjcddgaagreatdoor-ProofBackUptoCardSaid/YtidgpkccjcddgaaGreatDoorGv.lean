/- slices.IndexFunc and slices.ContainsFunc at ints and rationals; literals, the closures of proof.may. No condition but lengths. -/
import Derived.Test.YtidgpkccjcddgaaGreatDoorGu
set_option linter.unusedVariables false
set_option linter.unusedSimpArgs false
namespace Go.Proofs.YtidgpkccjcddgaaGreatDoor.F
open Go.RowKit Go.Shelf Go.Proofs.YtidgpkccjcddgaaGreatDoorW.PrintLast
def FirstP (p : Nat → Bool) (n : Nat) (r : Int) : Prop :=
 (r = -1 ∧ ∀ j, j < n → p j = false) ∨ ∃ i, i < n ∧ r = (i : Int) ∧ p i = true ∧ ∀ j, j < i → p j = false
theorem FirstP.nonneg {p : Nat → Bool} {n : Nat} {r : Int} (h : FirstP p n r) : decide (0 ≤ r) = (List.range n).any p := by
 rcases h with ⟨rfl, h⟩ | ⟨i, hi, rfl, h, _⟩
 · rw [show (List.range n).any p = false from by simp; exact fun x hx => h x hx]; rfl
 · rw [show (List.range n).any p = true from by simp; exact ⟨i, hi, h⟩]; simp
def PredP (g : Nat) (lb : Array Value) (V : Nat → Value) (p : Nat → Bool) (n : Nat) (w : World) : Prop :=
 ∀ i, i < n → ∀ W : World, Below w.heap.size w W → Calls Tryz.prog g (#[V i] ++ lb) W fun e w' => e = .returned (.bool (p i)) ∧ Below W.heap.size W w'
theorem anyP_range {α : Type} (q : α → Bool) (d : α) (xs : List α) : ((List.range xs.length).any fun i => q (xs.getD i d)) = xs.any q := by
 rw [Bool.eq_iff_iff]
 simp only [List.any_eq_true, List.mem_range]
 constructor
 · rintro ⟨i, hi, h⟩
   exact ⟨xs[i], List.getElem_mem hi, by simpa [List.getD, List.getElem?_eq_getElem hi] using h⟩
 · rintro ⟨x, hx, h⟩
   obtain ⟨i, hi, rfl⟩ := List.getElem_of_mem hx
   exact ⟨i, hi, by simpa [List.getD, List.getElem?_eq_getElem hi] using h⟩
set_option maxHeartbeats 1000000 in
theorem indexCl (g : Nat) (lb : Array Value) (eg : ∀ args w, (callFunc g args).run Tryz.prog w = .ok (.enter g args) w) (V : Nat → Value) (p : Nat → Bool) (A : Option Addr) (n c : Nat) (w : World)
 (hn : n ≤ 9223372036854775807) (hc : ∀ i, i < n → ∃ ad, A = some ad ∧ w.cell? (ad.add i) = some (V i)) (hp : PredP g lb V p n w) :
 Calls Tryz.prog 227 #[.slice A n c, .func (.func g) #[] lb] w fun e w' => ∃ r, e = .returned (.int .i64 r) ∧ FirstP p n r ∧ Below w.heap.size w w' := by
 have HC := Lib.hid hc
 clear hc
 go_enter Tryz.func227, Tryz.ntmps227
 go_wp2
 go_loopg [5, 8] n (fun gg _ s8 wr => ∃ k : Nat, k ≤ n ∧ n - k ≤ gg ∧ s8 = .int .i64 k ∧ Hid (Below w.heap.size w wr) ∧ Hid (∀ j, j < k → p j = false))
 case atStart => exact ⟨0, Nat.zero_le _, by omega, rfl, Below.refl _ w, fun j hj => absurd hj (Nat.not_lt_zero _)⟩
 case round =>
  obtain ⟨k, hk, hg, rfl, BW, A1⟩ := hrel
  by_cases hlt : k < n
  · have hltz : (k : Int) < (n : Int) := by omega
    obtain ⟨ad, rfl, hcell⟩ := HC.out k hlt
    have hcell' := cell_below BW.out hcell
    clear hcell
    have hcall := hp k hlt wr BW.out
    clear hp
    cases hq : p k with
    | true =>
     rw [hq] at hcall
     go_wp2_with fail
     refine hcall.mono ?_
     rintro e w' ⟨rfl, hb'⟩
     replace hb' := BW.out.trans (hb'.mono BW.out.size)
     clear hcall
     go_wp2_with fail
     go_ret
     exact ⟨_, rfl, Or.inr ⟨k, hlt, rfl, hq, A1.out⟩, hb'⟩
    | false =>
     rw [hq] at hcall
     go_wp2_with fail
     refine hcall.mono ?_
     rintro e w' ⟨rfl, hb'⟩
     replace hb' := BW.out.trans (hb'.mono BW.out.size)
     clear hcall
     go_wp2_with fail
     go_roundg (n - (k + 1))
     case measure => omega
     case rel =>
      refine ⟨k + 1, by omega, by omega, by go_num, hb', (show Hid _ from fun j hj => ?_)⟩
      by_cases e : j = k
      · subst e; exact hq
      · exact A1.out j (by omega)
  · have hltz : ¬ (k : Int) < (n : Int) := by omega
    have : k = n := by omega
    subst this
    go_wp2
    go_ret
    exact ⟨_, rfl, Or.inl ⟨rfl, A1.out⟩, BW.out⟩
set_option maxHeartbeats 1000000 in
theorem containsCl (g : Nat) (lb : Array Value) (eg : ∀ args w, (callFunc g args).run Tryz.prog w = .ok (.enter g args) w) (V : Nat → Value) (p : Nat → Bool) (A : Option Addr) (n c : Nat) (w : World)
 (hn : n ≤ 9223372036854775807) (hc : ∀ i, i < n → ∃ ad, A = some ad ∧ w.cell? (ad.add i) = some (V i)) (hp : PredP g lb V p n w) :
 Calls Tryz.prog 170 #[.slice A n c, .func (.func g) #[] lb] w fun e w' => e = .returned (.bool ((List.range n).any p)) ∧ Below w.heap.size w w' := by
 have H := Lib.hid (indexCl g lb eg V p A n c w hn hc hp)
 clear hc hp eg
 go_enter Tryz.func170, Tryz.ntmps170
 go_wp2_with fail
 refine H.out.mono ?_
 clear H
 rintro e w' ⟨r, rfl, hr, hb⟩
 have hr' := Lib.hid hr.nonneg
 clear hr
 go_wp2_with fail
 go_ret
 exact ⟨ret_bool hr'.out, hb⟩
set_option maxHeartbeats 1000000 in
theorem indexIn (g : Nat) (lb : Array Value) (eg : ∀ args w, (callFunc g args).run Tryz.prog w = .ok (.enter g args) w) (V : Nat → Value) (p : Nat → Bool) (A : Option Addr) (n c : Nat) (w : World)
 (hn : n ≤ 9223372036854775807) (hc : ∀ i, i < n → ∃ ad, A = some ad ∧ w.cell? (ad.add i) = some (V i)) (hp : PredP g lb V p n w) :
 Calls Tryz.prog 228 #[.slice A n c, .func (.func g) #[] lb] w fun e w' => ∃ r, e = .returned (.int .i64 r) ∧ FirstP p n r ∧ Below w.heap.size w w' := by
 have HC := Lib.hid hc
 clear hc
 go_enter Tryz.func228, Tryz.ntmps228
 go_wp2
 go_loopg [5, 8] n (fun gg _ s8 wr => ∃ k : Nat, k ≤ n ∧ n - k ≤ gg ∧ s8 = .int .i64 k ∧ Hid (Below w.heap.size w wr) ∧ Hid (∀ j, j < k → p j = false))
 case atStart => exact ⟨0, Nat.zero_le _, by omega, rfl, Below.refl _ w, fun j hj => absurd hj (Nat.not_lt_zero _)⟩
 case round =>
  obtain ⟨k, hk, hg, rfl, BW, A1⟩ := hrel
  by_cases hlt : k < n
  · have hltz : (k : Int) < (n : Int) := by omega
    obtain ⟨ad, rfl, hcell⟩ := HC.out k hlt
    have hcell' := cell_below BW.out hcell
    clear hcell
    have hcall := hp k hlt wr BW.out
    clear hp
    cases hq : p k with
    | true =>
     rw [hq] at hcall
     go_wp2_with fail
     refine hcall.mono ?_
     rintro e w' ⟨rfl, hb'⟩
     replace hb' := BW.out.trans (hb'.mono BW.out.size)
     clear hcall
     go_wp2_with fail
     go_ret
     exact ⟨_, rfl, Or.inr ⟨k, hlt, rfl, hq, A1.out⟩, hb'⟩
    | false =>
     rw [hq] at hcall
     go_wp2_with fail
     refine hcall.mono ?_
     rintro e w' ⟨rfl, hb'⟩
     replace hb' := BW.out.trans (hb'.mono BW.out.size)
     clear hcall
     go_wp2_with fail
     go_roundg (n - (k + 1))
     case measure => omega
     case rel =>
      refine ⟨k + 1, by omega, by omega, by go_num, hb', (show Hid _ from fun j hj => ?_)⟩
      by_cases e : j = k
      · subst e; exact hq
      · exact A1.out j (by omega)
  · have hltz : ¬ (k : Int) < (n : Int) := by omega
    have : k = n := by omega
    subst this
    go_wp2
    go_ret
    exact ⟨_, rfl, Or.inl ⟨rfl, A1.out⟩, BW.out⟩
set_option maxHeartbeats 1000000 in
theorem containsIn (g : Nat) (lb : Array Value) (eg : ∀ args w, (callFunc g args).run Tryz.prog w = .ok (.enter g args) w) (V : Nat → Value) (p : Nat → Bool) (A : Option Addr) (n c : Nat) (w : World)
 (hn : n ≤ 9223372036854775807) (hc : ∀ i, i < n → ∃ ad, A = some ad ∧ w.cell? (ad.add i) = some (V i)) (hp : PredP g lb V p n w) :
 Calls Tryz.prog 173 #[.slice A n c, .func (.func g) #[] lb] w fun e w' => e = .returned (.bool ((List.range n).any p)) ∧ Below w.heap.size w w' := by
 have H := Lib.hid (indexIn g lb eg V p A n c w hn hc hp)
 clear hc hp eg
 go_enter Tryz.func173, Tryz.ntmps173
 go_wp2_with fail
 refine H.out.mono ?_
 clear H
 rintro e w' ⟨r, rfl, hr, hb⟩
 have hr' := Lib.hid hr.nonneg
 clear hr
 go_wp2_with fail
 go_ret
 exact ⟨ret_bool hr'.out, hb⟩
set_option maxHeartbeats 1000000 in
theorem indexRa (g : Nat) (lb : Array Value) (eg : ∀ args w, (callFunc g args).run Tryz.prog w = .ok (.enter g args) w) (V : Nat → Value) (p : Nat → Bool) (A : Option Addr) (n c : Nat) (w : World)
 (hn : n ≤ 9223372036854775807) (hc : ∀ i, i < n → ∃ ad, A = some ad ∧ ∃ x1 x2 x3, V i = .agg #[x1, x2, x3] ∧ w.cell? (ad.add (i * 3)) = some x1 ∧ w.cell? (nxt (ad.add (i * 3)) 1) = some x2 ∧ w.cell? (nxt (ad.add (i * 3)) 2) = some x3) (hp : PredP g lb V p n w) :
 Calls Tryz.prog 229 #[.slice A n c, .func (.func g) #[] lb] w fun e w' => ∃ r, e = .returned (.int .i64 r) ∧ FirstP p n r ∧ Below w.heap.size w w' := by
 have HC := Lib.hid hc
 clear hc
 go_enter Tryz.func229, Tryz.ntmps229
 go_wp2
 go_loopg [5, 8] n (fun gg _ s8 wr => ∃ k : Nat, k ≤ n ∧ n - k ≤ gg ∧ s8 = .int .i64 k ∧ Hid (Below w.heap.size w wr) ∧ Hid (∀ j, j < k → p j = false))
 case atStart => exact ⟨0, Nat.zero_le _, by omega, rfl, Below.refl _ w, fun j hj => absurd hj (Nat.not_lt_zero _)⟩
 case round =>
  obtain ⟨k, hk, hg, rfl, BW, A1⟩ := hrel
  by_cases hlt : k < n
  · have hltz : (k : Int) < (n : Int) := by omega
    obtain ⟨ad, rfl, x1, x2, x3, hV, q1, q2, q3⟩ := HC.out k hlt
    have r1 := cell_below BW.out q1
    have r2 := cell_below BW.out q2
    have r3 := cell_below BW.out q3
    clear q1 q2 q3
    have hcall := hp k hlt wr BW.out
    clear hp
    rw [hV] at hcall
    clear hV
    cases hq : p k with
    | true =>
     rw [hq] at hcall
     go_wp2_with fail
     refine hcall.mono ?_
     rintro e w' ⟨rfl, hb'⟩
     replace hb' := BW.out.trans (hb'.mono BW.out.size)
     clear hcall
     go_wp2_with fail
     go_ret
     exact ⟨_, rfl, Or.inr ⟨k, hlt, rfl, hq, A1.out⟩, hb'⟩
    | false =>
     rw [hq] at hcall
     go_wp2_with fail
     refine hcall.mono ?_
     rintro e w' ⟨rfl, hb'⟩
     replace hb' := BW.out.trans (hb'.mono BW.out.size)
     clear hcall
     go_wp2_with fail
     go_roundg (n - (k + 1))
     case measure => omega
     case rel =>
      refine ⟨k + 1, by omega, by omega, by go_num, hb', (show Hid _ from fun j hj => ?_)⟩
      by_cases e : j = k
      · subst e; exact hq
      · exact A1.out j (by omega)
  · have hltz : ¬ (k : Int) < (n : Int) := by omega
    have : k = n := by omega
    subst this
    go_wp2
    go_ret
    exact ⟨_, rfl, Or.inl ⟨rfl, A1.out⟩, BW.out⟩
set_option maxHeartbeats 1000000 in
theorem containsRa (g : Nat) (lb : Array Value) (eg : ∀ args w, (callFunc g args).run Tryz.prog w = .ok (.enter g args) w) (V : Nat → Value) (p : Nat → Bool) (A : Option Addr) (n c : Nat) (w : World)
 (hn : n ≤ 9223372036854775807) (hc : ∀ i, i < n → ∃ ad, A = some ad ∧ ∃ x1 x2 x3, V i = .agg #[x1, x2, x3] ∧ w.cell? (ad.add (i * 3)) = some x1 ∧ w.cell? (nxt (ad.add (i * 3)) 1) = some x2 ∧ w.cell? (nxt (ad.add (i * 3)) 2) = some x3) (hp : PredP g lb V p n w) :
 Calls Tryz.prog 175 #[.slice A n c, .func (.func g) #[] lb] w fun e w' => e = .returned (.bool ((List.range n).any p)) ∧ Below w.heap.size w w' := by
 have H := Lib.hid (indexRa g lb eg V p A n c w hn hc hp)
 clear hc hp eg
 go_enter Tryz.func175, Tryz.ntmps175
 go_wp2_with fail
 refine H.out.mono ?_
 clear H
 rintro e w' ⟨r, rfl, hr, hb⟩
 have hr' := Lib.hid hr.nonneg
 clear hr
 go_wp2_with fail
 go_ret
 exact ⟨ret_bool hr'.out, hb⟩
theorem litN_parts (many : Nat) (x : Int) : (x = 0 ∧ litN many x = false) ∨ (x ≠ 0 ∧ (many : Int) < x ∧ litN many x = false) ∨ (x ≠ 0 ∧ x ≤ (many : Int) ∧ x < -(many : Int) ∧ litN many x = false) ∨ (x ≠ 0 ∧ x ≤ (many : Int) ∧ -(many : Int) ≤ x ∧ litN many x = true) := by
 unfold litN
 by_cases h0 : x = 0
 · left; refine ⟨h0, ?_⟩; rw [h0]; rfl
 · have hb : (x == 0) = false := by simpa using h0
   right
   by_cases h1 : x ≤ (many : Int)
   · right
     by_cases h2 : -(many : Int) ≤ x
     · right; exact ⟨h0, h1, h2, by rw [hb, decide_eq_true h1, decide_eq_true h2]; rfl⟩
     · left; exact ⟨h0, h1, by omega, by rw [hb, decide_eq_true h1, decide_eq_false h2]; rfl⟩
   · left; exact ⟨h0, by omega, by rw [hb, decide_eq_false h1]; rfl⟩
set_option maxHeartbeats 1000000 in
theorem pr_literal (x : Int) (many : Nat) (hm : many ≤ 8388608) (w : World) : Calls Tryz.prog 172 #[.int .i64 x, .int .i64 (many : Int)] w fun e w' => e = .returned (.bool (litN many x)) ∧ w' = w := by
 rcases litN_parts many x with ⟨h0, h⟩ | ⟨h0, h1, h⟩ | ⟨h0, h1, h2, h⟩ | ⟨h0, h1, h2, h⟩ <;> rw [h] <;> clear h
 · subst h0
   go_enter Tryz.func172, Tryz.ntmps172
   go_wp2
   go_ret
   exact ⟨rfl, rfl⟩
 all_goals
  have hb : (x != 0) = true := by simpa using h0
  clear h0
  have hw1 : -9223372036854775808 ≤ -(many : Int) := by omega
  have hw2 : (many : Int) ≤ 8388608 := by omega
  have hw3 : 0 ≤ (many : Int) := by omega
  generalize (many : Int) = mi at *
  go_enter Tryz.func172, Tryz.ntmps172
  go_wp2
  go_ret
  exact ⟨ret_bool (by simp; try omega), rfl⟩
theorem entersMay1 : ∀ args w, (callFunc 171 args).run Tryz.prog w = .ok (.enter 171 args) w := enters_of Tryz.func171 (by kernel_rfl) rfl
theorem entersMay2 : ∀ args w, (callFunc 174 args).run Tryz.prog w = .ok (.enter 174 args) w := enters_of Tryz.func174 (by kernel_rfl) rfl
theorem entersMay3 : ∀ args w, (callFunc 176 args).run Tryz.prog w = .ok (.enter 176 args) w := enters_of Tryz.func176 (by kernel_rfl) rfl
set_option maxHeartbeats 1000000 in
theorem may_1 (x : Int) (many : Nat) (hm : many ≤ 8388608) (B : Addr) (w : World) (hB : w.cell? B = some (.int .i64 (many : Int))) :
 Calls Tryz.prog 171 #[.int .i64 x, .pointer (some B)] w fun e w' => e = .returned (.bool (!litN many x)) ∧ Below w.heap.size w w' := by
 have hL := Lib.hid (fun (W : World) => pr_literal x many hm W)
 go_enter Tryz.func171, Tryz.ntmps171
 go_wp2_with fail
 refine (hL.out _).mono ?_
 rintro e w' ⟨rfl, rfl⟩
 clear hL
 go_wp2
 go_ret
 exact ⟨rfl, Below.refl _ _⟩
set_option maxHeartbeats 1000000 in
theorem may_2 (x : Int) (i : Nat) (B : Addr) (w : World) (hB : w.cell? B = some (.int .i64 (i : Int))) :
 Calls Tryz.prog 174 #[.int .i64 x, .pointer (some B)] w fun e w' => e = .returned (.bool (!byN i x)) ∧ Below w.heap.size w w' := by
 unfold byN
 by_cases h0 : 0 ≤ x
 · have h0z : ¬ x < 0 := by omega
   rw [decide_eq_true h0]
   go_enter Tryz.func174, Tryz.ntmps174
   go_wp2
   go_ret
   exact ⟨ret_bool (by by_cases h1 : x < (i : Int) <;> simp [h1] <;> omega), Below.refl _ _⟩
 · have h0z : x < 0 := by omega
   rw [decide_eq_false h0]
   go_enter Tryz.func174, Tryz.ntmps174
   go_wp2
   go_ret
   exact ⟨rfl, Below.refl _ _⟩
set_option maxHeartbeats 1000000 in
theorem may_3 (q : RatD) (B : Option Addr) (c : Nat) (D : Option Addr) (d : Nat) (w : World) (h : InD w q B c D d) (h1 : q.1.2.length ≤ 8388608) (h2 : q.2.length ≤ 8388608) :
 Calls Tryz.prog 176 #[.agg #[.bool q.1.1, .slice B q.1.2.length c, .slice D q.2.length d]] w fun e w' => e = .returned (.bool (!posC q)) ∧ Below w.heap.size w w' := by
 have hS := Lib.hid (fun (W : World) (hb : Below w.heap.size w W) => ratio_Sign q.1.1 B c q.1.2 D d q.2 W (h.num.below hb) (by omega) (h.den.below hb) (by omega))
 clear h
 rw [show rv q.1.1 q.1.2 q.2 = rq q from rfl] at hS
 unfold posC
 generalize sgn (rq q).num = z at *
 have HF := Lib.hid ((Fr.refl w).box [.bool q.1.1, .slice B q.1.2.length c, .slice D q.2.length d] 43)
 simp only [List.toArray] at HF
 go_enter Tryz.func176, Tryz.ntmps176
 go_wp2_with fail
 refine (hS.out _ HF.out.bel).mono ?_
 rintro e' W2 ⟨rfl, hb⟩
 replace HF := Lib.hid (HF.out.below hb)
 clear hb hS
 go_wp2
 go_ret
 exact ⟨ret_bool (by by_cases h0 : 0 ≤ z <;> simp [h0] <;> omega), HF.out.bel⟩
def stc (s : StepD) (A : Option Addr) (c : Nat) (B : Option Addr) (d : Nat) (D : Option Addr) (e : Nat) : List Value := [.int .i64 s.1.1.1, .slice A s.1.1.2.length c, .slice B s.1.2.length d, .slice D s.2.length e]
structure StIn (w : World) (s : StepD) (A : Option Addr) (c : Nat) (B : Option Addr) (d : Nat) (D : Option Addr) (e : Nat) : Prop where
 rowC : (Knd.int .i64).Row w A s.1.1.2
 capC : s.1.1.2.length ≤ c
 rowB : (Knd.int .i64).Row w B s.1.2
 capB : s.1.2.length ≤ d
 rowQ : kRat.Row w D s.2
 capQ : s.2.length ≤ e
 good : GoodS s
theorem StIn.below {w W : World} {s : StepD} {A : Option Addr} {c : Nat} {B : Option Addr} {d : Nat} {D : Option Addr} {e : Nat} (h : StIn w s A c B d D e) (hb : Below w.heap.size w W) : StIn W s A c B d D e :=
 ⟨h.rowC.below hb, h.capC, h.rowB.below hb, h.capB, h.rowQ.below hb, h.capQ, h.good⟩
theorem wt_len (xs : List RatD) : xs.length ≤ (xs.map wt).sum := by
 induction xs with
 | nil => simp
 | cons x xs ih => simp only [List.map_cons, List.sum_cons, List.length_cons]; have : 5 ≤ wt x := by unfold wt; omega
                   omega
theorem StIn.lens {w : World} {s : StepD} {A : Option Addr} {c : Nat} {B : Option Addr} {d : Nat} {D : Option Addr} {e : Nat} (h : StIn w s A c B d D e) : s.1.1.2.length ≤ 8388608 ∧ s.1.2.length ≤ 8388608 ∧ s.2.length ≤ 8388608 := by
 have h1 := h.good.few
 have h2 := wt_len s.2
 unfold wts at h1
 omega
theorem stIn_row {w : World} {A : Option Addr} {xs : List StepD} (h : kStep.Row w A xs) (hg : ∀ a ∈ xs, GoodS a) (i : Nat) (hi : i < xs.length) :
 ∃ ad A' c B d D e, A = some ad ∧ w.cell? (ad.add (i * 4)) = some (.int .i64 xs[i].1.1.1) ∧ w.cell? (nxt (ad.add (i * 4)) 1) = some (.slice A' xs[i].1.1.2.length c) ∧ w.cell? (nxt (ad.add (i * 4)) 2) = some (.slice B xs[i].1.2.length d) ∧ w.cell? (nxt (ad.add (i * 4)) 3) = some (.slice D xs[i].2.length e) ∧ StIn w xs[i] A' c B d D e := by
 obtain ⟨ad, A', c, B, d, D, e, e0, h0, h1, h2, h3, k1, k2, k3, k4, k5, k6⟩ := row_step h i hi
 exact ⟨ad, A', c, B, d, D, e, e0, h0, h1, h2, h3, k2, k1, k4, k3, k6, k5, hg xs[i] (List.getElem_mem _)⟩
theorem cells_ints {w : World} {A : Option Addr} {xs : List Int} (h : (Knd.int .i64).Row w A xs) : ∀ i, i < xs.length → ∃ ad, A = some ad ∧ w.cell? (ad.add i) = some (.int .i64 (xs.getD i 0)) := fun i hi => by
 obtain ⟨ad, e, hc⟩ := Knd.at_int h i hi
 exact ⟨ad, e, by rw [hc]; simp [List.getD, List.getElem?_eq_getElem hi]⟩
theorem any_not {α : Type} (q : α → Bool) (xs : List α) : xs.any (fun x => !q x) = !xs.all q := by simp [List.all_eq_not_any_not]
theorem contains_lits (A : Option Addr) (c : Nat) (xs : List Int) (many : Nat) (hm : many ≤ 8388608) (B : Addr) (w : World) (hB : w.cell? B = some (.int .i64 (many : Int))) (hX : (Knd.int .i64).Row w A xs) (hx : xs.length ≤ 8388608) :
 Calls Tryz.prog 170 #[.slice A xs.length c, .func (.func 171) #[] #[.pointer (some B)]] w fun e w' => e = .returned (.bool (!xs.all (litN many))) ∧ Below w.heap.size w w' := by
 have H := containsCl 171 #[.pointer (some B)] entersMay1 (fun i => .int .i64 (xs.getD i 0)) (fun i => !litN many (xs.getD i 0)) A xs.length c w (by omega) (cells_ints hX) (fun i hi W hb => may_1 _ many hm B W (cell_below hb hB))
 exact H.mono fun e w' ⟨he, hw⟩ => ⟨he.trans (ret_bool (by rw [anyP_range (fun x => !litN many x) 0 xs, any_not])), hw⟩
theorem contains_by (A : Option Addr) (c : Nat) (xs : List Int) (i : Nat) (B : Addr) (w : World) (hB : w.cell? B = some (.int .i64 (i : Int))) (hX : (Knd.int .i64).Row w A xs) (hx : xs.length ≤ 8388608) :
 Calls Tryz.prog 173 #[.slice A xs.length c, .func (.func 174) #[] #[.pointer (some B)]] w fun e w' => e = .returned (.bool (!xs.all (byN i))) ∧ Below w.heap.size w w' := by
 have H := containsIn 174 #[.pointer (some B)] entersMay2 (fun k => .int .i64 (xs.getD k 0)) (fun k => !byN i (xs.getD k 0)) A xs.length c w (by omega) (cells_ints hX) (fun k hi W hb => may_2 _ i B W (cell_below hb hB))
 exact H.mono fun e w' ⟨he, hw⟩ => ⟨he.trans (ret_bool (by rw [anyP_range (fun x => !byN i x) 0 xs, any_not])), hw⟩
theorem rat_row {w : World} {A : Option Addr} {xs : List RatD} (h : kRat.Row w A xs) (hg : ∀ q ∈ xs, Good (wt q) q) (hw : (xs.map wt).sum ≤ 8388608) (i : Nat) (hi : i < xs.length) :
 ∃ ad B c D d, A = some ad ∧ w.cell? (ad.add (i * 3)) = some (.bool xs[i].1.1) ∧ w.cell? (nxt (ad.add (i * 3)) 1) = some (.slice B xs[i].1.2.length c) ∧ w.cell? (nxt (ad.add (i * 3)) 2) = some (.slice D xs[i].2.length d) ∧ InD w xs[i] B c D d ∧ xs[i].1.2.length ≤ 8388608 ∧ xs[i].2.length ≤ 8388608 := by
 obtain ⟨ad, B, c, D, d, e0, h1, h2, h3, hq⟩ := row_rat h i hi
 have hm : xs[i] ∈ xs := List.getElem_mem _
 have g := hg _ hm
 have hs : wt xs[i] ≤ (xs.map wt).sum := le_sum hm
 have h4 := g.mn
 have h5 := g.md
 exact ⟨ad, B, c, D, d, e0, h1, h2, h3, ⟨hq.num g, hq.den g⟩, by omega, by omega⟩
theorem contains_neg (A : Option Addr) (c : Nat) (xs : List RatD) (w : World) (hX : kRat.Row w A xs) (hg : ∀ q ∈ xs, Good (wt q) q) (hw : (xs.map wt).sum ≤ 8388608) :
 Calls Tryz.prog 175 #[.slice A xs.length c, .func (.func 176) #[] #[]] w fun e w' => e = .returned (.bool (!xs.all posC)) ∧ Below w.heap.size w w' := by
 have hx := wt_len xs
 have each : ∀ i (hi : i < xs.length), ∃ ad v x1 x2 x3, A = some ad ∧ v = Value.agg #[x1, x2, x3] ∧ w.cell? (ad.add (i * 3)) = some x1 ∧ w.cell? (nxt (ad.add (i * 3)) 1) = some x2 ∧ w.cell? (nxt (ad.add (i * 3)) 2) = some x3 ∧ ∀ W : World, Below w.heap.size w W → Calls Tryz.prog 176 #[v] W fun e w' => e = .returned (.bool (!posC xs[i])) ∧ Below W.heap.size W w' := fun i hi => by
  obtain ⟨ad, B, c, D, d, e0, h1, h2, h3, hq, l1, l2⟩ := rat_row hX hg hw i hi
  exact ⟨ad, _, _, _, _, e0, rfl, h1, h2, h3, fun W hb => may_3 _ B c D d W (hq.below hb) l1 l2⟩
 have H := containsRa 176 #[] entersMay3 (fun i => if hi : i < xs.length then (each i hi).choose_spec.choose else .bool false) (fun i => !posC (xs.getD i ((false, []), []))) A xs.length c w (by omega)
  (fun i hi => by
   obtain ⟨x1, x2, x3, h⟩ := (each i hi).choose_spec.choose_spec
   refine ⟨(each i hi).choose, h.1, x1, x2, x3, ?_, h.2.2.1, h.2.2.2.1, h.2.2.2.2.1⟩
   rw [dif_pos hi]; exact h.2.1)
  (fun i hi W hb => by
   obtain ⟨x1, x2, x3, h⟩ := (each i hi).choose_spec.choose_spec
   have := h.2.2.2.2.2 W hb
   dsimp only
   rw [dif_pos hi]
   rw [show xs.getD i ((false, []), []) = xs[i] by simp [List.getD, List.getElem?_eq_getElem hi]]
   exact this)
 exact H.mono fun e w' ⟨he, hw⟩ => ⟨he.trans (ret_bool (by rw [anyP_range (fun x => !posC x) ((false, []), []) xs, any_not])), hw⟩
set_option maxHeartbeats 2000000 in
set_option maxRecDepth 100000 in
theorem pr_may (s : StepD) (A : Option Addr) (c : Nat) (B : Option Addr) (d : Nat) (D : Option Addr) (e : Nat) (i many : Nat) (hm : many ≤ 8388608) (w : World) (h : StIn w s A c B d D e) :
 Calls Tryz.prog 109 #[.agg (stc s A c B d D e).toArray, .int .i64 (i : Int), .int .i64 (many : Int)] w (Decides w (mayS s i many)) := by
 have hl := h.lens
 have hw : (s.2.map wt).sum ≤ 8388608 := by have := h.good.few; unfold wts at this; omega
 have h1 := Lib.hid (fun (W : World) (hb : Below w.heap.size w W) (Bp : Addr) (hB : W.cell? Bp = some (.int .i64 (many : Int))) => contains_lits A c s.1.1.2 many hm Bp W hB (h.rowC.below hb) hl.1)
 have h2 := Lib.hid (fun (W : World) (hb : Below w.heap.size w W) (Bp : Addr) (hB : W.cell? Bp = some (.int .i64 (i : Int))) => contains_by B d s.1.2 i Bp W hB (h.rowB.below hb) hl.2.1)
 have h3 := Lib.hid (fun (W : World) (hb : Below w.heap.size w W) => contains_neg D e s.2 W (h.rowQ.below hb) h.good.good hw)
 obtain ⟨r, hr⟩ : ∃ r, r = mayS s i many := ⟨_, rfl⟩
 rw [← hr]
 unfold mayS at hr
 unfold stc
 clear h hl hw
 obtain ⟨⟨⟨k, xs⟩, ys⟩, qs⟩ := s
 dsimp only at *
 generalize xs.all (litN many) = b1 at *
 generalize ys.all (byN i) = b2 at *
 generalize qs.all posC = b3 at *
 have HF := Lib.hid ((((Fr.refl w).box [.int .i64 k, .slice A xs.length c, .slice B ys.length d, .slice D qs.length e] 80).box [.int .i64 (i : Int)] 3).box [.int .i64 (many : Int)] 3)
 have hsz : ∀ (w : World) (o : Obj), (w.alloc o).heap.size = w.heap.size + 1 := fun w o => by simp
 simp only [hsz, Nat.add_assoc, Nat.reduceAdd] at HF
 simp only [List.toArray] at *
 clear hsz
 generalize xs.length = n1 at *
 generalize ys.length = n2 at *
 generalize qs.length = n3 at *
 have HRr := Lib.hid hr
 clear hr
 go_enter Tryz.func109, Tryz.ntmps109
 go_upto_region 1 with fail
 generalize hgt : World.alloc _ _ = W at HF ⊢
 clear hgt
 have a0 := HF.out.cellN 2 rfl 0 rfl
 have a1 := HF.out.cellN 2 rfl 1 rfl
 have a2 := HF.out.cellN 2 rfl 2 rfl
 have a3 := HF.out.cellN 2 rfl 3 rfl
 have hc0 := HF.out.cellN 0 rfl 0 rfl
 go_wp2_with fail
 refine (h1.out _ HF.out.bel _ hc0).mono ?_
 rintro e' W2 ⟨rfl, hb⟩
 replace HF := Lib.hid (HF.out.below hb)
 clear hb h1 a0 a1 a2 a3 hc0
 cases b1 with
 | false =>
  have HX := Lib.hid (show false = r from by rw [HRr.out]; rfl)
  clear HRr h2 h3
  go_wp2
  go_ret
  exact ⟨ret_bool HX.out, HF.out.bel⟩
 | true =>
 have a0 := HF.out.cellN 2 rfl 0 rfl
 have a1 := HF.out.cellN 2 rfl 1 rfl
 have a2 := HF.out.cellN 2 rfl 2 rfl
 have a3 := HF.out.cellN 2 rfl 3 rfl
 by_cases k1 : k = 1
 · subst k1
   have HX := Lib.hid (show (decide (n2 = 0) && decide (n3 = 0)) = r from by rw [HRr.out]; rfl)
   clear HRr h2 h3
   by_cases hn : n2 = 0
   · subst hn
     by_cases hq : n3 = 0
     · subst hq
       go_wp2
       go_ret
       exact ⟨ret_bool HX.out, HF.out.bel⟩
     · have hqb : ((n3 : Int) == 0) = false := by rw [beq_eq_false_iff_ne]; omega
       rw [decide_eq_false hq] at HX
       clear hq
       go_wp2
       go_ret
       exact ⟨ret_bool HX.out, HF.out.bel⟩
   · have hqb : ((n2 : Int) == 0) = false := by rw [beq_eq_false_iff_ne]; omega
     rw [decide_eq_false hn] at HX
     clear hn
     go_wp2
     go_ret
     exact ⟨ret_bool HX.out, HF.out.bel⟩
 have k1b : (k == 1) = false := by simpa using k1
 by_cases k2 : k = 2
 · subst k2
   have HX := Lib.hid (show (decide (n3 = 0) && b2) = r from by rw [HRr.out]; rfl)
   clear HRr h3 k1 k1b
   by_cases hn : n3 = 0
   · subst hn
     have hc0 := HF.out.cellN 1 rfl 0 rfl
     go_wp2_with fail
     refine (h2.out _ HF.out.bel _ hc0).mono ?_
     rintro e' W3 ⟨rfl, hb⟩
     replace HF := Lib.hid (HF.out.below hb)
     clear hb h2 a0 a1 a2 a3 hc0
     have HX2 := Lib.hid (show b2 = r from by rw [← HX.out]; rfl)
     clear HX
     go_wp2
     go_ret
     exact ⟨ret_bool HX2.out, HF.out.bel⟩
   · have hqb : ((n3 : Int) == 0) = false := by rw [beq_eq_false_iff_ne]; omega
     rw [decide_eq_false hn] at HX
     clear hn h2
     go_wp2
     go_ret
     exact ⟨ret_bool HX.out, HF.out.bel⟩
 have k2b : (k == 2) = false := by simpa using k2
 by_cases k3 : k = 3
 · subst k3
   have HX := Lib.hid (show (decide (n2 = 0) && (decide (n3 = n1) && b3)) = r from by rw [HRr.out]; rfl)
   clear HRr h2 k1 k1b k2 k2b
   by_cases hn : n2 = 0
   · subst hn
     by_cases hq : n3 = n1
     · subst hq
       go_wp2_with fail
       refine (h3.out _ HF.out.bel).mono ?_
       rintro e' W3 ⟨rfl, hb⟩
       replace HF := Lib.hid (HF.out.below hb)
       clear hb h3 a0 a1 a2 a3
       have HX2 := Lib.hid (show b3 = r from by rw [← HX.out]; simp)
       clear HX
       go_wp2
       go_ret
       exact ⟨ret_bool HX2.out, HF.out.bel⟩
     · have hqb : ((n3 : Int) == (n1 : Int)) = false := by rw [beq_eq_false_iff_ne]; omega
       rw [decide_eq_false hq] at HX
       clear hq h3
       go_wp2
       go_ret
       exact ⟨ret_bool HX.out, HF.out.bel⟩
   · have hqb : ((n2 : Int) == 0) = false := by rw [beq_eq_false_iff_ne]; omega
     rw [decide_eq_false hn] at HX
     clear hn h3
     go_wp2
     go_ret
     exact ⟨ret_bool HX.out, HF.out.bel⟩
 have k3b : (k == 3) = false := by simpa using k3
 have HX := Lib.hid (show false = r from by rw [HRr.out, if_neg k1, if_neg k2, if_neg k3]; rfl)
 clear HRr h2 h3 k1 k2 k3
 go_wp2
 go_ret
 exact ⟨ret_bool HX.out, HF.out.bel⟩
theorem sum_len {α : Type} {g : α → Nat} (h : ∀ x, 1 ≤ g x) (xs : List α) : xs.length ≤ (xs.map g).sum := by
 induction xs with
 | nil => simp
 | cons x xs ih =>
  have := h x
  simp only [List.map_cons, List.sum_cons, List.length_cons]
  omega
theorem RefIn.lens {w : World} {r : RefD} {A : Option Addr} {c : Nat} {B : Option Addr} {d : Nat} (h : RefIn w r A c B d) : r.1.length ≤ 8388608 ∧ r.2.length ≤ 8388608 := by
 have h1 := sum_len (g := wtn) (fun x => by unfold wtn; omega) r.1
 have h2 := sum_len (g := wts) (fun x => by unfold wts; omega) r.2
 have h3 := h.few
 omega
theorem chk_two (l : List AtomD) : (TabOk l ∧ chk l = 0) ∨ (¬ TabOk l ∧ chk l = 170) := by
 by_cases h : TabOk l
 · exact .inl ⟨h, chk_ok h⟩
 · exact .inr ⟨h, chk_bad h⟩
set_option maxHeartbeats 2000000 in
set_option maxRecDepth 100000 in
theorem pr_Valid (r : RefD) (A : Option Addr) (c : Nat) (B : Option Addr) (d : Nat) (w : World) (h : RefIn w r A c B d) :
 Calls Tryz.prog 45 #[.agg #[.slice A r.1.length c, .slice B r.2.length d]] w (fun e' w' => e' = .returned (.tuple #[.int .i64 (vldN r), .int .i64 (vldE r)]) ∧ Below w.heap.size w w') := by
 have hl := h.lens
 have hc2 := h.capS
 have hC := Lib.hid (fun (W : World) (hb : Below w.heap.size w W) => at_Check A c r.1 W (h.rowA.below hb) h.capA h.goodA hl.1)
 have hS := Lib.hid (fun (i : Nat) (hi : i < r.2.length) => stIn_row h.rowS h.goodS i hi)
 have HV0 := Lib.hid (fun (ht : ¬ TabOk r.1) => vld_tab ht)
 have HVb := Lib.hid (fun (ht : TabOk r.1) (i : Nat) (hi : i < r.2.length) (hm : mayAt r i = false) (hb : ∀ j, j < i → mayAt r j = true) => vld_bad ht (badN_some hi hm hb))
 have HVo := Lib.hid (fun (ht : TabOk r.1) (hb : ∀ j, j < r.2.length → mayAt r j = true) => vld_ok ht (badN_none hb))
 have HE := Lib.hid (fun (i : Nat) (hi : i < r.2.length) => mayAt_eq (r := r) hi)
 have h2 := chk_two r.1
 clear h
 generalize vldN r = vn at *
 generalize vldE r = ve at *
 generalize chk r.1 = ck at *
 have HF := Lib.hid ((Fr.refl w).box [.slice A r.1.length c, .slice B r.2.length d] 25)
 simp only [List.toArray] at HF
 generalize r.1.length = n1 at *
 go_enter Tryz.func45, Tryz.ntmps45
 go_upto_region 1 with fail
 generalize hgt : World.alloc _ _ = W at HF ⊢
 clear hgt
 have a0 := HF.out.cellN 0 rfl 0 rfl
 go_wp2_with fail
 refine (hC.out _ HF.out.bel).mono ?_
 rintro e' W2 ⟨rfl, hb⟩
 replace HF := Lib.hid (HF.out.below hb)
 clear hb hC a0
 rcases h2 with ⟨ht, rfl⟩ | ⟨ht, rfl⟩
 · replace HVb := Lib.hid (HVb.out ht)
   replace HVo := Lib.hid (HVo.out ht)
   clear ht HV0
   have a1 := HF.out.cellN 0 rfl 1 rfl
   go_wp2_with fail
   clear a1
   go_loopg [16] r.2.length (fun gg s wr => ∃ i : Nat, i + gg = r.2.length ∧ s = .int .i64 i ∧ Hid (∀ j, j < i → mayAt r j = true) ∧ Hid (Fr w wr [(w.heap.size, [.slice A n1 c, .slice B r.2.length d])]))
   case atStart => exact ⟨0, by omega, rfl, fun j hj => absurd hj (Nat.not_lt_zero _), HF.out⟩
   case round =>
   clear HF
   obtain ⟨i, hgg, rfl, HK, HF⟩ := hrel
   by_cases hlt : i < r.2.length
   · have hltz : (i : Int) < (r.2.length : Int) := by omega
     obtain ⟨ad, A1, c1, B1, d1, D1, e1, rfl, q0, q1, q2, q3, hst⟩ := hS.out i hlt
     have hM := Lib.hid (fun (W : World) (hb : Below w.heap.size w W) => pr_may r.2[i] A1 c1 B1 d1 D1 e1 i n1 hl.1 W (hst.below hb))
     rw [← HE.out i hlt] at hM
     have x0 := cell_below HF.out.bel q0
     have x1 := cell_below HF.out.bel q1
     have x2 := cell_below HF.out.bel q2
     have x3 := cell_below HF.out.bel q3
     clear q0 q1 q2 q3 hst
     unfold stc at hM
     simp only [List.toArray] at hM
     generalize r.2[i] = s at *
     replace HF := Lib.hid (HF.out.box [.int .i64 s.1.1.1, .slice A1 s.1.1.2.length c1, .slice B1 s.1.2.length d1, .slice D1 s.2.length e1] 80)
     simp only [List.toArray] at HF
     go_upto_region 7 with fail
     generalize hgt : World.alloc _ _ = W at HF ⊢
     clear hgt x0 x1 x2 x3
     have x0 := HF.out.cellN 0 rfl 0 rfl
     have x1 := HF.out.cellN 0 rfl 1 rfl
     have x2 := HF.out.cellN 0 rfl 2 rfl
     have x3 := HF.out.cellN 0 rfl 3 rfl
     have a0 := HF.out.cellN 1 rfl 0 rfl
     go_wp2_with fail
     refine (hM.out _ HF.out.bel).mono ?_
     rintro e' W3 ⟨rfl, hb⟩
     replace HF := Lib.hid (HF.out.below hb)
     clear hb hM x0 x1 x2 x3 a0
     cases hm : mayAt r i with
     | true =>
      have HK2 := Lib.hid (show ∀ j, j < i + 1 → mayAt r j = true from fun j hj => by
       by_cases e : j = i
       · subst e; exact hm
       · exact HK.out j (by omega))
      clear hm HK
      go_wp2
      go_roundg (r.2.length - (i + 1))
      case measure => omega
      case rel => exact ⟨i + 1, by omega, by go_num, HK2, HF.out.tail⟩
     | false =>
      have hx := HVb.out i hlt hm HK.out
      have HX1 := Lib.hid hx.1
      have HX2 := Lib.hid hx.2
      clear hx hm HVb HVo HK hS
      go_wp2
      go_ret2
      rw [HX1.out, HX2.out]
      exact ⟨rfl, HF.out.bel⟩
   · have hltz : ¬ (i : Int) < (r.2.length : Int) := by omega
     have hx := HVo.out fun j hj => HK.out j (by omega)
     have HX1 := Lib.hid hx.1
     have HX2 := Lib.hid hx.2
     clear hx HVb HVo HK hS
     go_wp2
     go_ret2
     rw [HX1.out, HX2.out]
     exact ⟨rfl, HF.out.bel⟩
 · have hx := HV0.out ht
   have HX1 := Lib.hid hx.1
   have HX2 := Lib.hid hx.2
   clear hx HV0 HVb HVo ht hS
   go_wp2
   go_ret2
   rw [HX1.out, HX2.out]
   exact ⟨rfl, HF.out.bel⟩
end Go.Proofs.YtidgpkccjcddgaaGreatDoor.F
