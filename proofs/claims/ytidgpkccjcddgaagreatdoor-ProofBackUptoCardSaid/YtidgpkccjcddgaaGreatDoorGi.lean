/- The walks of fulcrummem: SameNat, SameInt, SameRat, where both are the same. -/
import Derived.Test.YtidgpkccjcddgaaGreatDoorGh
import Derived.Test.YtidgpkccjcddgaaGreatDoorGa
import Derived.Test.YtidgpkccjcddgaaGreatDoorRows
import Derived.ProofKit
import Derived.OpenShut
import Derived.ChangeOld
import Derived.SizedLaws
import Derived.JoinedCond
import Derived.Laws.AppendOwn
set_option linter.unusedVariables false
set_option linter.unusedSimpArgs false
namespace Go.Proofs.YtidgpkccjcddgaaGreatDoor.F
open Go.RowKit Go.Shelf Go.Proofs.YtidgpkccjcddgaaGreatDoorW.PrintLast
set_option maxHeartbeats 1000000 in
theorem same_Nat (A : Option Addr) (c : Nat) (B : Option Addr) (d : Nat) (xs : List Int) (w : World) (h : In w A c xs) (k : In w B d xs) (hm : xs.length ≤ 1099511627776) :
 Calls Tryz.prog 85 #[.slice A xs.length c, .slice B xs.length d] w fun e w' => e = .returned (.bool true) ∧ Below w.heap.size w w' := by
 have hc := h.cap
 have kc := k.cap
 have H1 := Lib.hid h.row
 have K1 := Lib.hid k.row
 clear h k
 go_enter Tryz.func85, Tryz.ntmps85
 go_wp2
 go_loopg [5] xs.length (fun gg s5 wr => ∃ i : Nat, i + gg = xs.length ∧ s5 = .int .i64 i ∧ ∃ n, wr = w.drewN n)
 case atStart => exact ⟨0, by omega, rfl, 0, rfl⟩
 case round =>
  obtain ⟨i, hg, rfl, n, rfl⟩ := hrel
  by_cases hlt : i < xs.length
  · have hltz : (i : Int) < (xs.length : Int) := by omega
    obtain ⟨ad, rfl, hcell⟩ := Knd.at_int H1.out i hlt
    obtain ⟨bd, rfl, hcell2⟩ := Knd.at_int K1.out i hlt
    generalize xs[i] = x at *
    go_wp2
    go_quiet (fail)
    go_wp2
    go_roundg (xs.length - (i + 1))
    case measure => omega
    case rel => exact ⟨i + 1, by omega, by go_num, _, rfl⟩
  · have hltz : ¬ (i : Int) < (xs.length : Int) := by omega
    go_wp2
    go_ret
    exact ⟨rfl, below_drewN (Below.refl _ _) n⟩
set_option maxHeartbeats 1000000 in
theorem same_Int (s : Bool) (A : Option Addr) (c : Nat) (B : Option Addr) (d : Nat) (xs : List Int) (w : World) (h : In w A c xs) (k : In w B d xs) (hm : xs.length ≤ 1099511627776) :
 Calls Tryz.prog 84 #[.agg #[.bool s, .slice A xs.length c], .agg #[.bool s, .slice B xs.length d]] w fun e w' => e = .returned (.bool true) ∧ Below w.heap.size w w' := by
 have hS := Lib.hid (fun (W : World) (hb : Below w.heap.size w W) => same_Nat A c B d xs W (h.below hb) (k.below hb) hm)
 clear h k
 have HF := Lib.hid (((Fr.refl w).box [.bool s, .slice A xs.length c] 41).box [.bool s, .slice B xs.length d] 41)
 go_enter Tryz.func84, Tryz.ntmps84
 go_wp2_with fail
 refine (hS.out _ HF.out.bel).mono ?_
 rintro e W1 ⟨rfl, hb⟩
 replace HF := Lib.hid (HF.out.below hb)
 clear hb
 go_wp2
 go_ret
 exact ⟨rfl, HF.out.bel⟩
abbrev RatD := (Bool × List Int) × List Int
def kRat : Knd RatD := (Knd.bool.pair (Knd.int .u32).slice).pair (Knd.int .u32).slice
def kMono : Knd (Int × RatD) := (Knd.int .i64).pair kRat
def LiesQ (w : World) (x : RatD) (B : Option Addr) (c : Nat) (D : Option Addr) (d : Nat) : Prop :=
 x.1.2.length ≤ c ∧ x.2.length ≤ d ∧ Rn w B x.1.2 ∧ Rn w D x.2
theorem kRat_cells {w : World} {x : RatD} {cs : List Value} (h : kRat.C w x cs) : ∃ B c D d, cs = [.bool x.1.1, .slice B x.1.2.length c, .slice D x.2.length d] ∧ LiesQ w x B c D d := by
 obtain ⟨c1, c2, rfl, ⟨c3, c4, rfl, h1, h2⟩, h3⟩ := h
 obtain ⟨B, c, rfl, h4, h5, h6⟩ := h2
 obtain ⟨D, d, rfl, h7, h8, h9⟩ := h3
 have h1' : c3 = [.bool x.1.1] := h1
 subst h1'
 exact ⟨B, c, D, d, rfl, h4, h7, h6, h9⟩
theorem at_rat {w : World} {A : Option Addr} {xs : List RatD} (h : kRat.Row w A xs) (i : Nat) (hi : i < xs.length) :
 ∃ ad B c D d, A = some ad ∧ w.cell? (ad.add (i * 3)) = some (.bool xs[i].1.1) ∧ w.cell? (ad.add (i * 3 + 1)) = some (.slice B xs[i].1.2.length c) ∧ w.cell? (ad.add (i * 3 + 2)) = some (.slice D xs[i].2.length d) ∧ LiesQ w xs[i] B c D d := by
 obtain ⟨ad, cs, e, hC, hc⟩ := h i hi
 obtain ⟨B, c, D, d, rfl, hq⟩ := kRat_cells hC
 exact ⟨ad, B, c, D, d, e, hc 0 _ rfl, hc 1 _ rfl, hc 2 _ rfl, hq⟩
theorem at_mono {w : World} {A : Option Addr} {xs : List (Int × RatD)} (h : kMono.Row w A xs) (i : Nat) (hi : i < xs.length) :
 ∃ ad B c D d, A = some ad ∧ w.cell? (ad.add (i * 4)) = some (.int .i64 xs[i].1) ∧ w.cell? (ad.add (i * 4 + 1)) = some (.bool xs[i].2.1.1) ∧ w.cell? (ad.add (i * 4 + 2)) = some (.slice B xs[i].2.1.2.length c) ∧ w.cell? (ad.add (i * 4 + 3)) = some (.slice D xs[i].2.2.length d) ∧ LiesQ w xs[i].2 B c D d := by
 obtain ⟨ad, cs, e, hC, hc⟩ := h i hi
 obtain ⟨c1, c2, rfl, h1, h2⟩ := hC
 have h1' : c1 = [.int .i64 xs[i].1] := h1
 subst h1'
 obtain ⟨B, c, D, d, rfl, hq⟩ := kRat_cells h2
 exact ⟨ad, B, c, D, d, e, hc 0 _ rfl, hc 1 _ rfl, hc 2 _ rfl, hc 3 _ rfl, hq⟩
def Sz (b : Nat) (q : Rat) : Prop := (q.num.natAbs : Int) + q.den < Bp b
theorem mkRat_le (n : Int) (d : Nat) (hd : d ≠ 0) : (mkRat n d).num.natAbs ≤ n.natAbs ∧ (mkRat n d).den ≤ d := by
 have h1 := made_q (s := decide (n < 0)) (x := n.natAbs) (y := d) (by omega) rfl
 have h2 : iv (decide (n < 0)) (n.natAbs : Int) = n := by
  unfold iv; split
  · rename_i h; have := of_decide_eq_true h; omega
  · rename_i h; have : ¬ n < 0 := by simpa using h
    omega
 rw [h2] at h1
 rw [h1.1, h1.2]
 have e : ∀ m : Nat, (iv (decide (n < 0)) (m : Int)).natAbs = m := fun m => by unfold iv; split <;> omega
 rw [e]
 exact ⟨Nat.div_le_self _ _, Nat.div_le_self _ _⟩
theorem Sz.len {b : Nat} {q : Rat} (h : Sz b q) : (dg q.num.natAbs).length ≤ b ∧ (dg q.den).length ≤ b := by
 unfold Sz at h
 exact ⟨dg_length_le (by omega), dg_length_le (by omega)⟩
theorem Sz.mono {a b : Nat} {q : Rat} (h : Sz a q) (hab : a ≤ b) : Sz b q := Int.lt_of_lt_of_le h (Bp_le hab)
theorem Sz.zero : Sz 1 0 := by show (0 : Int) + 1 < Bp 1; decide
theorem sz_prod {x y : Int} {a b : Nat} (hx : 0 ≤ x) (hy : 0 ≤ y) (h : x < Bp a) (k : y < Bp b) : x * y < Bp (a + b) := by
 rw [Bp_add]
 have h1 : x * y ≤ x * Bp b := Int.mul_le_mul_of_nonneg_left (by omega) hx
 have h2 : x * Bp b < Bp a * Bp b := Int.mul_lt_mul_of_pos_right h (Bp_pos b)
 omega
theorem Sz.mul {a b : Nat} {p q : Rat} (h : Sz a p) (k : Sz b q) : Sz (a + b) (p * q) := by
 have h1 := mkRat_le (p.num * q.num) (p.den * q.den) (Nat.mul_ne_zero p.den_nz q.den_nz)
 rw [← rat_mul, Int.natAbs_mul] at h1
 have h2 := sz_prod (by omega) (by omega) h k
 unfold Sz at *
 have h3 : ((p.num.natAbs : Int) + p.den) * ((q.num.natAbs : Int) + q.den) = (p.num.natAbs * q.num.natAbs : Nat) + (p.den * q.den : Nat) + ((p.num.natAbs * q.den : Nat) + (p.den * q.num.natAbs : Nat)) := by push_cast; grind
 omega
theorem Sz.add {a b : Nat} {p q : Rat} (h : Sz a p) (k : Sz b q) : Sz (a + b) (p + q) := by
 have h1 := mkRat_le (p.num * q.den + q.num * p.den) (p.den * q.den) (Nat.mul_ne_zero p.den_nz q.den_nz)
 rw [← rat_add] at h1
 have h4 : (p.num * q.den + q.num * p.den).natAbs ≤ p.num.natAbs * q.den + q.num.natAbs * p.den := by
  refine Nat.le_trans (Int.natAbs_add_le _ _) ?_
  rw [Int.natAbs_mul, Int.natAbs_mul]; exact Nat.le_refl _
 have h2 := sz_prod (by omega) (by omega) h k
 unfold Sz at *
 have h3 : ((p.num.natAbs : Int) + p.den) * ((q.num.natAbs : Int) + q.den) = (p.num.natAbs * q.den + q.num.natAbs * p.den : Nat) + (p.den * q.den : Nat) + (p.num.natAbs * q.num.natAbs : Nat) := by push_cast; grind
 omega
theorem Sz.rvs (s : Bool) {xs ys : List Int} (h : Lim xs) (k : Lim ys) : Sz (xs.length + ys.length + 1) (rv s xs ys) := by
 have h1 := rv_len s h k
 unfold Sz
 have h2 := Int.lt_of_lt_of_le (dg_lt (rv s xs ys).num.natAbs) (Bp_le h1.1)
 by_cases h0 : V ys = 0
 · have : rv s xs ys = 0 := by unfold rv; rw [h0]; exact Rat.mkRat_zero _
   rw [this]
   have h5 : Bp 1 ≤ Bp (xs.length + ys.length + 1) := Bp_le (by omega)
   have h6 : Bp 1 = 4294967296 := rfl
   show (0 : Int) + 1 < _
   omega
 · have h3 : ((rv s xs ys).den : Int) ≤ V ys := by
    have := (mkRat_le (iv s (V xs)) (V ys).toNat (by have := V_nonneg k; omega)).2
    show ((mkRat (iv s (V xs)) (V ys).toNat).den : Int) ≤ _
    have := V_nonneg k
    omega
   have h4 := V_lt k
   have h5 : Bp xs.length ≤ Bp (xs.length + ys.length) := Bp_le (by omega)
   have h6 : Bp ys.length ≤ Bp (xs.length + ys.length) := Bp_le (by omega)
   have h7 := Bp_succ (xs.length + ys.length)
   have h8 := Bp_pos (xs.length + ys.length)
   omega
def rq (x : RatD) : Rat := rv x.1.1 x.1.2 x.2
structure Good (b : Nat) (x : RatD) : Prop where
 ln : Lim x.1.2
 ld : Lim x.2
 mn : x.1.2.length ≤ b
 md : x.2.length ≤ b
theorem LiesQ.num {w : World} {x : RatD} {B : Option Addr} {c : Nat} {D : Option Addr} {d b : Nat} (h : LiesQ w x B c D d) (g : Good b x) : In w B c x.1.2 := ⟨h.2.2.1, g.ln, h.1⟩
theorem LiesQ.den {w : World} {x : RatD} {B : Option Addr} {c : Nat} {D : Option Addr} {d b : Nat} (h : LiesQ w x B c D d) (g : Good b x) : In w D d x.2 := ⟨h.2.2.2, g.ld, h.2.1⟩
abbrev nxt (a : Addr) (j : Nat) : Addr := ⟨a.block, a.off + j, none⟩
theorem add_off (a : Addr) (k j : Nat) (hj : 0 < j) : nxt (a.add k) j = a.add (k + j) := by
 rw [← add_add]
 show _ = if j = 0 then _ else _
 rw [if_neg (by omega)]
theorem row_rat {w : World} {A : Option Addr} {xs : List RatD} (h : kRat.Row w A xs) (i : Nat) (hi : i < xs.length) :
 ∃ ad B c D d, A = some ad ∧ w.cell? (ad.add (i * 3)) = some (.bool xs[i].1.1) ∧ w.cell? (nxt (ad.add (i * 3)) 1) = some (.slice B xs[i].1.2.length c) ∧ w.cell? (nxt (ad.add (i * 3)) 2) = some (.slice D xs[i].2.length d) ∧ LiesQ w xs[i] B c D d := by
 obtain ⟨ad, B, c, D, d, e, h1, h2, h3, hq⟩ := at_rat h i hi
 exact ⟨ad, B, c, D, d, e, h1, by rw [add_off _ _ _ (by omega)]; exact h2, by rw [add_off _ _ _ (by omega)]; exact h3, hq⟩
theorem row_mono {w : World} {A : Option Addr} {xs : List (Int × RatD)} (h : kMono.Row w A xs) (i : Nat) (hi : i < xs.length) :
 ∃ ad B c D d, A = some ad ∧ w.cell? (ad.add (i * 4)) = some (.int .i64 xs[i].1) ∧ w.cell? (nxt (ad.add (i * 4)) 1) = some (.bool xs[i].2.1.1) ∧ w.cell? (nxt (ad.add (i * 4)) 2) = some (.slice B xs[i].2.1.2.length c) ∧ w.cell? (nxt (ad.add (i * 4)) 3) = some (.slice D xs[i].2.2.length d) ∧ LiesQ w xs[i].2 B c D d := by
 obtain ⟨ad, B, c, D, d, e, h1, h2, h3, h4, hq⟩ := at_mono h i hi
 exact ⟨ad, B, c, D, d, e, h1, by rw [add_off _ _ _ (by omega)]; exact h2, by rw [add_off _ _ _ (by omega)]; exact h3, by rw [add_off _ _ _ (by omega)]; exact h4, hq⟩
theorem Fr.tail {w W : World} {b : Nat × List Value} {bs : List (Nat × List Value)} (h : Fr w W (b :: bs)) : Fr w W bs := ⟨h.1, fun p hp => h.2 p (List.mem_cons_of_mem _ hp)⟩
theorem bulk_one {H : Type} (d : DataW H) : 1 ≤ Rows.uptoBulk d := by
 cases d with
 | lit l => cases l <;> simp [Rows.uptoBulk]
 | nil => simp [Rows.uptoBulk]
 | ptr d => simp [Rows.uptoBulk]
 | slice elems spare => simp [Rows.uptoBulk]
 | agg parts => simp [Rows.uptoBulk]
 | iface t d => simp [Rows.uptoBulk]
 | map entries => simp [Rows.uptoBulk]
 | held h => simp [Rows.uptoBulk]
theorem bulk_list {α : Type} {H : Type} {ok : α → DataW H → Prop} {g : α → Nat} (h : ∀ x d, ok x d → g x ≤ Rows.uptoBulk d) (xs : List α) (el : List (DataW H)) (hl : el.length = xs.length) (he : ∀ i (h : i < xs.length) (h' : i < el.length), ok xs[i] el[i]) : (xs.map g).sum ≤ Rows.uptoBulkAll el := by
 induction xs generalizing el with
 | nil => simp
 | cons x xs ih =>
  cases el with
  | nil => simp at hl
  | cons d el =>
   have h0 := h x d (he 0 (by simp) (by simp))
   have h1 := ih el (by simpa using hl) (fun i hi hi' => he (i + 1) (by simp; omega) (by simp; omega))
   simp only [List.map_cons, List.sum_cons, Rows.uptoBulkAll]
   omega
theorem bulk_slice {α : Type} {H : Type} {ok : α → (H : Type) → DataW H → Prop} {g : α → Nat} (h : ∀ x d, ok x H d → g x ≤ Rows.uptoBulk d) {xs : List α} {d : DataW H} (hk : okSlice ok xs H d) : (xs.map g).sum + 1 ≤ Rows.uptoBulk d := by
 rcases hk with ⟨rfl, rfl⟩ | ⟨el, sp, rfl, hl, he⟩
 · simp [Rows.uptoBulk]
 · have := bulk_list (ok := fun x d => ok x H d) h xs el hl he
   simp only [Rows.uptoBulk]
   omega
abbrev okNat := okSlice (okInt .u32)
abbrev okRat := okPair (okPair okBool okNat) okNat
abbrev okMono := okPair (okInt .i64) okRat
abbrev okForm := okSlice okMono
def wt (x : RatD) : Nat := x.1.2.length + x.2.length + 5
def wtm (m : Int × RatD) : Nat := wt m.2 + 2
theorem len_nat {H : Type} {xs : List Int} {d : DataW H} (h : okNat xs H d) : xs.length + 1 ≤ Rows.uptoBulk d := by
 have := bulk_slice (g := fun _ => 1) (fun x d _ => bulk_one d) h
 rwa [List.map_const', List.sum_replicate_nat, Nat.mul_one] at this
theorem wt_rat {H : Type} {x : RatD} {d : DataW H} (h : okRat x H d) : wt x ≤ Rows.uptoBulk d := by
 obtain ⟨p, q, rfl, ⟨r, s, rfl, h1, h2⟩, h3⟩ := h
 have a := bulk_one r
 have b := len_nat h2
 have c := len_nat h3
 simp only [Rows.uptoBulk, Rows.uptoBulkAll, wt]
 omega
theorem wt_mono {H : Type} {x : Int × RatD} {d : DataW H} (h : okMono x H d) : wtm x ≤ Rows.uptoBulk d := by
 obtain ⟨p, q, rfl, h1, h2⟩ := h
 have a := bulk_one p
 have b := wt_rat h2
 simp only [Rows.uptoBulk, Rows.uptoBulkAll, wtm]
 omega
theorem wt_form {H : Type} {f : List (Int × RatD)} {d : DataW H} (h : okForm f H d) : (f.map wtm).sum + 1 ≤ Rows.uptoBulk d := bulk_slice (fun x d h => wt_mono h) h
theorem wt_rats {H : Type} {f : List RatD} {d : DataW H} (h : okSlice okRat f H d) : (f.map wt).sum + 1 ≤ Rows.uptoBulk d := bulk_slice (fun x d h => wt_rat h) h
theorem lim_nat {H : Type} {xs : List Int} {d : DataW H} (h : okNat xs H d) : Lim xs := by
 intro x hx
 rcases h with ⟨rfl, _⟩ | ⟨el, sp, _, hl, h⟩
 · cases hx
 · obtain ⟨i, hi, rfl⟩ := List.getElem_of_mem hx
   have := (h i hi (by omega)).1
   simp [Lit.wf, IntKind.min, IntKind.max, IntKind.signed, IntKind.bits] at this
   omega
theorem good_rat {H : Type} {x : RatD} {d : DataW H} (h : okRat x H d) : Good (wt x) x := by
 obtain ⟨p, q, _, ⟨r, s, _, h1, h2⟩, h3⟩ := h
 exact ⟨lim_nat h2, lim_nat h3, by unfold wt; omega, by unfold wt; omega⟩
theorem Good.mono {b c : Nat} {x : RatD} (h : Good b x) (hbc : b ≤ c) : Good c x := ⟨h.ln, h.ld, Nat.le_trans h.mn hbc, Nat.le_trans h.md hbc⟩
theorem ok_mem {α : Type} {H : Type} {ok : α → (H : Type) → DataW H → Prop} {xs : List α} {d : DataW H} (h : okSlice ok xs H d) {x : α} (hx : x ∈ xs) : ∃ d, ok x H d := by
 rcases h with ⟨rfl, _⟩ | ⟨el, sp, _, hl, h⟩
 · cases hx
 · obtain ⟨i, hi, rfl⟩ := List.getElem_of_mem hx
   exact ⟨_, h i hi (by omega)⟩
theorem le_sum {α : Type} {g : α → Nat} {xs : List α} {x : α} (h : x ∈ xs) : g x ≤ (xs.map g).sum := by
 induction xs with
 | nil => cases h
 | cons y xs ih =>
  simp only [List.map_cons, List.sum_cons]
  rcases List.mem_cons.1 h with rfl | h
  · omega
  · have := ih h; omega
theorem Sz.rq {x : RatD} (h : Good (wt x) x) : Sz (wt x) (rq x) := (Sz.rvs x.1.1 h.ln h.ld).mono (by unfold wt; omega)
open Go.ChangeShapes Go.WideShapes Go.ChangeAt
theorem prog_own : ownKnob Tryz.prog.godebug = none := by kernel_rfl
theorem prog_laid : laidOutB Tryz.prog = true := by kernel_rfl
theorem opens_Nat : Opens Tryz.prog 39 (Knd.int .u32).slice okNat := opens_slice Tryz.underlying39 (by kernel_rfl) (opens_int Tryz.underlying133)
theorem opens_Int : Opens Tryz.prog 41 (Knd.bool.pair (Knd.int .u32).slice) (okPair okBool okNat) := opens_pair Tryz.underlying41 (by kernel_rfl) rfl rfl (by kernel_rfl) (by kernel_rfl) (opens_bool Tryz.underlying4) opens_Nat
theorem opens_Rat : Opens Tryz.prog 43 kRat okRat := opens_pair Tryz.underlying43 (by kernel_rfl) rfl rfl (by kernel_rfl) (by kernel_rfl) opens_Int opens_Nat
theorem opens_Mono : Opens Tryz.prog 57 kMono okMono := opens_pair Tryz.underlying57 (by kernel_rfl) rfl rfl (by kernel_rfl) (by kernel_rfl) (opens_int Tryz.underlying3) opens_Rat
theorem opens_Form : Opens Tryz.prog 31 kMono.slice okForm := opens_slice Tryz.underlying31 (by kernel_rfl) opens_Mono
theorem opens_Rats : Opens Tryz.prog 78 kRat.slice (okSlice okRat) := opens_slice Tryz.underlying78 (by kernel_rfl) opens_Rat
theorem len_le_sum {α : Type} {g : α → Nat} {b : Nat} (xs : List α) (h : ∀ x ∈ xs, b ≤ g x) : xs.length * b ≤ (xs.map g).sum := by
 induction xs with
 | nil => simp
 | cons x xs ih =>
  have := ih fun y hy => h y (List.mem_cons_of_mem _ hy)
  have := h x (List.mem_cons_self ..)
  simp only [List.map_cons, List.sum_cons, List.length_cons, Nat.succ_mul]
  omega
def NoU (cs : List Value) : Prop := ∀ y, Value.int .u32 y ∉ cs
theorem NoU.append {a b : List Value} (h : NoU a) (k : NoU b) : NoU (a ++ b) := fun y hy => by
 rcases List.mem_append.1 hy with hy | hy
 · exact h y hy
 · exact k y hy
def KeepU (w w' : World) : Prop := ∀ p y, w.cell? p = some (.int .u32 y) → w'.cell? p = some (.int .u32 y)
theorem KeepU.refl (w : World) : KeepU w w := fun _ _ h => h
theorem KeepU.trans {a b c : World} (h : KeepU a b) (k : KeepU b c) : KeepU a c := fun p y hy => k p y (h p y hy)
theorem KeepU.below {w w' : World} (h : Below w.heap.size w w') : KeepU w w' := fun p y hy => cell_below h hy
theorem Rn.keep {w w' : World} {A : Option Addr} {xs : List Int} (h : Rn w A xs) (hk : KeepU w w') : Rn w' A xs := by
 intro k hl
 obtain ⟨ad, vs, e, hC, hc⟩ := h k hl
 refine ⟨ad, vs, e, hC, fun j u hu => ?_⟩
 have h1 := hc j u hu
 have hvs : vs = [.int .u32 xs[k]] := hC
 have hu' : u = .int .u32 xs[k] := by
  rw [hvs] at hu
  cases j with
  | zero => simpa using hu.symm
  | succ j => simp at hu
 subst hu'
 exact hk _ _ h1
theorem In.keep {w w' : World} {A : Option Addr} {c : Nat} {xs : List Int} (h : In w A c xs) (hk : KeepU w w') : In w' A c xs := ⟨h.row.keep hk, h.lim, h.cap⟩
theorem InQ.keep {w w' : World} {A : Option Addr} {c : Nat} {B : Option Addr} {d : Nat} {q : Rat} (h : InQ w A c B d q) (hk : KeepU w w') : InQ w' A c B d q := ⟨h.num.keep hk, h.den.keep hk⟩
theorem cell_mem {w : World} {p : Addr} {cur : Array Value} {e : TypeId} {fz : Nat × Nat} {u : Value} (hg : w.heap[p.block]? = some (.cells cur e fz)) (h : w.cell? p = some u) : u ∈ cur.toList := by
 simp only [World.cell?, hg] at h
 split at h
 · cases h
 · exact Array.mem_toList_iff.2 (Array.mem_of_getElem? h)
theorem KeepU.of_blocks {w w' : World} (h : ∀ k, k < w.heap.size → w'.heap[k]? = w.heap[k]? ∨ ∃ cur e fz, w.heap[k]? = some (.cells cur e fz) ∧ NoU cur.toList) : KeepU w w' := by
 intro p y hy
 have hlt := World.block_lt_of_cell? w p hy
 rcases h p.block hlt with h1 | ⟨cur, e, fz, h1, h2⟩
 · exact (World.cell?_of_block h1).trans hy
 · exact absurd (cell_mem h1 hy) (h2 y)
def OwnL (w : World) (B : Nat) (e : TypeId) (sz : Nat) (v : Value) (n : Nat) (xs : List Value) : Prop :=
 xs.length = n * sz ∧ ((v = .slice none 0 0 ∧ n = 0) ∨ ∃ g cap cur, v = .slice (some ⟨g, 0, none⟩) n cap ∧ B ≤ g ∧ w.heap[g]? = some (.cells cur e (0, 0)) ∧ n ≤ cap ∧ cap ≤ maxLen ∧ cur.size = cap * sz ∧ cur.toList.take (n * sz) = xs ∧ NoU cur.toList)
theorem OwnL.nil (w : World) (B : Nat) (e : TypeId) (sz : Nat) : OwnL w B e sz (.slice none 0 0) 0 [] := ⟨by simp, .inl ⟨rfl, rfl⟩⟩
theorem OwnL.to {w : World} {B : Nat} {e : TypeId} {sz : Nat} {v : Value} {n : Nat} {xs : List Value} (h : OwnL w B e sz v n xs) : w.ownsRow B e sz v n xs := by
 refine ⟨h.1, ?_⟩
 rcases h.2 with h | ⟨g, cap, cur, h1, h2, h3, h4, h5, h6, h7, h8⟩
 · exact .inl h
 · exact .inr ⟨g, cap, cur, h1, h2, h3, h4, h5, h6, h7⟩
theorem OwnL.noU {w : World} {B : Nat} {e : TypeId} {sz : Nat} {v : Value} {n : Nat} {xs : List Value} (h : OwnL w B e sz v n xs) : NoU xs := by
 rcases h.2 with ⟨_, rfl⟩ | ⟨g, cap, cur, h1, h2, h3, h4, h5, h6, h7, h8⟩
 · have : xs = [] := List.eq_nil_of_length_eq_zero (by simpa using h.1)
   subst this
   intro y hy
   cases hy
 · intro y hy
   rw [← h7] at hy
   exact h8 y (List.mem_of_mem_take hy)
theorem OwnL.mono {w : World} {B C : Nat} {e : TypeId} {sz : Nat} {v : Value} {n : Nat} {xs : List Value} (h : OwnL w B e sz v n xs) (hC : C ≤ B) : OwnL w C e sz v n xs := by
 refine ⟨h.1, ?_⟩
 rcases h.2 with h | ⟨g, cap, cur, h1, h2, h3⟩
 · exact .inl h
 · exact .inr ⟨g, cap, cur, h1, by omega, h3⟩
theorem OwnL.kept {w w' : World} {B : Nat} {e : TypeId} {sz : Nat} {v : Value} {n : Nat} {xs : List Value} (h : OwnL w B e sz v n xs) (hk : ∀ k, k < w.heap.size → v.ownBlock = some k → w'.heap[k]? = w.heap[k]?) : OwnL w' B e sz v n xs := by
 refine ⟨h.1, ?_⟩
 rcases h.2 with h | ⟨g, cap, cur, rfl, h2, h3, h4⟩
 · exact .inl h
 · exact .inr ⟨g, cap, cur, rfl, h2, by rw [hk g (Array.getElem?_eq_some_iff.1 h3).1 rfl]; exact h3, h4⟩
theorem OwnL.below {w w' : World} {B : Nat} {e : TypeId} {sz : Nat} {v : Value} {n : Nat} {xs : List Value} (h : OwnL w B e sz v n xs) (hb : Below w.heap.size w w') : OwnL w' B e sz v n xs := h.kept fun k hk _ => hb.block k hk
theorem OwnL.form {w : World} {B : Nat} {e : TypeId} {sz : Nat} {v : Value} {n : Nat} {xs : List Value} (h : OwnL w B e sz v n xs) : ∃ A c, v = .slice A n c ∧ n ≤ c ∧ c ≤ maxLen ∧ (0 < n → ∃ ad, A = some ad ∧ ∀ j u, xs[j]? = some u → w.cell? (ad.add j) = some u) := by
 rcases h.2 with ⟨rfl, rfl⟩ | ⟨g, cap, cur, rfl, h2, h3, h4, h5, h6⟩
 · exact ⟨none, 0, rfl, Nat.le_refl _, by simp [maxLen], fun h => absurd h (by omega)⟩
 · exact ⟨_, cap, rfl, h4, h5, fun hn => ⟨_, rfl, h.to.cells (g := g) rfl⟩⟩
structure Soft (B : Nat) (v : Value) (w w' : World) : Prop where
 below : Below B w w'
 keep : KeepU w w'
 other : ∀ k, k < w.heap.size → v.ownBlock ≠ some k → w'.heap[k]? = w.heap[k]?
theorem mem_zeroCells {z : Array Value} {n : Nat} {u : Value} (h : u ∈ (Builtin.zeroCells z n).toList) : u ∈ z.toList := by
 have h := Array.mem_toList_iff.1 h
 unfold Builtin.zeroCells at h
 obtain ⟨i, hi, rfl⟩ := Array.mem_map.1 h
 have hi := Array.mem_range.1 hi
 have hz : 0 < z.size := by
  rcases Nat.eq_zero_or_pos z.size with h0 | h0
  · rw [h0] at hi; omega
  · exact h0
 rw [getElem!_pos z _ (Nat.mod_lt _ hz)]
 exact Array.mem_toList_iff.2 (Array.getElem_mem _)
theorem own_grown {w : World} {B : Nat} {e : TypeId} {z : Value} {sz n m cap : Nat} {xs news : List Value} (hzs : z.cells.size = sz) (h1 : xs.length = n * sz) (h2 : news.length = m * sz) (hx : NoU xs) (hn : NoU news) (hz : NoU z.cells.toList) (hc : n + m ≤ cap) (hm : cap ≤ maxLen) (hB : B ≤ w.heap.size) (v : Value) :
 OwnL (w.drew.alloc (.cells (xs.toArray ++ news.toArray ++ Builtin.zeroCells z.cells (cap - (n + m))) e)) B e sz (.slice (some ⟨w.heap.size, 0, none⟩) (n + m) cap) (n + m) (xs ++ news) ∧
  Soft B v w (w.drew.alloc (.cells (xs.toArray ++ news.toArray ++ Builtin.zeroCells z.cells (cap - (n + m))) e)) := by
 have hl : (xs ++ news).length = (n + m) * sz := by rw [List.length_append, h1, h2, Nat.add_mul]
 have hb : Below w.heap.size w (w.drew.alloc (.cells (xs.toArray ++ news.toArray ++ Builtin.zeroCells z.cells (cap - (n + m))) e)) := (Below.refl _ _).drew.alloc (Nat.le_refl _) _
 refine ⟨⟨hl, .inr ⟨w.heap.size, cap, _, rfl, hB, heap_alloc_new w.drew _, hc, hm, ?_, ?_, ?_⟩⟩, ⟨hb.mono hB, KeepU.below hb, fun k hk _ => hb.block k hk⟩⟩
 · simp only [Array.size_append, List.size_toArray, size_zeroCells, hzs, h1, h2, ← Nat.add_mul]
   congr 1
   omega
 · simp only [Array.toList_append]
   rw [← hl]
   exact List.take_left
 · simp only [Array.toList_append]
   exact (hx.append hn).append fun y hy => hz y (mem_zeroCells hy)
theorem push_run {P : Program} {w : World} {B : Nat} {t ty e : TypeId} {z : Value} {sz bytes n m c : Nat} {v : Value} {xs news : List Value} {ad : Addr} (ht : P.underlying t = some (.slice e)) (hi : (P.info? e).map (fun i => (i.zero, i.size, i.bytes)) = some (some z, sz, bytes))
 (hzs : z.cells.size = sz) (hown : OwnL w B e sz v n xs) (hl : news.length = m * sz) (hnews : ∀ j u, news[j]? = some u → w.cell? (ad.add j) = some u) (h1 : ∀ u ∈ news, u.oneCell' = true) (hn : NoU news) (hzu : NoU z.cells.toList)
 (h63 : n + m ≤ maxLen) (hbytes : (n + m) * bytes ≤ 140737488355328) (hB : B ≤ w.heap.size) :
 ∃ v' w', (Builtin.append_ #[t, t] ty #[v, .slice (some ad) m c]).run P w = .ok v' w' ∧ OwnL w' B e sz v' (n + m) (xs ++ news) ∧ Soft B v w w' := by
 obtain ⟨i, hi0, hz, hs, hby⟩ := info_parts hi
 subst hs
 subst hby
 have hsmall : n + m ≤ 9223372036854775807 := by simp only [maxLen] at h63; omega
 have hxu := hown.noU
 rcases hown.2 with ⟨rfl, rfl⟩ | ⟨g, cap, cur, rfl, hbg, hg, hnc, hcm, hcs, htake, hcu⟩
 · have hx : xs = [] := List.eq_nil_of_length_eq_zero (by simpa using hown.1)
   subst hx
   by_cases hm : m = 0
   · subst hm
     have hn0 : news = [] := List.eq_nil_of_length_eq_zero (by simpa using hl)
     subst hn0
     refine ⟨.slice none 0 0, w, ?_, OwnL.nil _ _ _ _, ⟨Below.refl _ _, KeepU.refl _, fun _ _ _ => rfl⟩⟩
     simp [Builtin.append_, run_underlying ht, sizeOf, typeInfo, hi0, Builtin.lenOf, Builtin.firstCells, loadCells, loadCellsFrom]
   · have hr := run_append_nil (P := P) w t ty e i z ht hi0 hz ad m c news hl hnews (by omega) (by omega) (by have hb := hbytes; simp only [Nat.zero_add] at hb; omega)
     have hgr := own_grown (w := w) (B := B) (e := e) (z := z) (n := 0) (m := m) (cap := grownCap w m 0 e) (xs := []) hzs (by simp) hl (fun y hy => by cases hy) hn hzu (by rw [Nat.zero_add]; exact grownCap_ge _ _ _ _) (grownCap_le_maxLen _ _ _ _ (by omega)) hB (.slice none 0 0)
     simp only [Nat.zero_add, List.nil_append, Array.empty_append] at hgr ⊢
     exact ⟨_, _, hr, hgr.1, hgr.2⟩
 · by_cases hroom : n + m ≤ cap
   · have hfit : n * i.size + news.length ≤ cur.size := by rw [hl, hcs, ← Nat.add_mul]; exact Nat.mul_le_mul_right _ hroom
     have hr := run_append_room (P := P) w t ty e i ht hi0 g n cap cur hg ad m c news hl hnews h1 hroom hfit
     have hlen : (xs ++ news).length = (n + m) * i.size := by rw [List.length_append, hown.1, hl, Nat.add_mul]
     have hoth : ∀ k, k ≠ g → (w.setRow g (cur.toList.take (n * i.size) ++ news ++ cur.toList.drop (n * i.size + news.length)).toArray).heap[k]? = w.heap[k]? := fun k hk => setRow_other w g k _ hk
     refine ⟨_, _, hr, ⟨hlen, .inr ⟨g, cap, _, rfl, hbg, setRow_heap w g cur _ e _ hg, hroom, hcm, ?_, ?_, ?_⟩⟩, ⟨⟨rfl, rfl, rfl, by simp [World.setRow], fun k hk => hoth k (by omega)⟩, KeepU.of_blocks fun k hk => ?_, fun k hk hne => hoth k fun he => hne (by rw [he]; rfl)⟩⟩
     · simp only [List.size_toArray, List.length_append, List.length_take, List.length_drop, Array.length_toList]
       omega
     · rw [htake, ← hlen]
       exact List.take_left
     · refine (NoU.append ?_ hn).append ?_
       · exact fun y hy => hcu y (List.mem_of_mem_take hy)
       · exact fun y hy => hcu y (List.mem_of_mem_drop hy)
     · by_cases hkg : k = g
       · subst hkg
         exact .inr ⟨cur, e, (0, 0), hg, hcu⟩
       · exact .inl (hoth k hkg)
   · have holds : ∀ j u, xs[j]? = some u → w.cell? ((⟨g, 0, none⟩ : Addr).add j) = some u := hown.to.cells (g := g) rfl
     have hr := run_append_grow (P := P) w t ty e i z ht hi0 hz ⟨g, 0, none⟩ n cap xs hown.1 holds ad m c news hl hnews (by omega) (by omega) (growslice_fits (by omega) hbytes)
     have hgr := own_grown (w := w) (B := B) (e := e) (z := z) (n := n) (m := m) (cap := grownCap w (n + m) cap e) hzs hown.1 hl hxu hn hzu (grownCap_ge _ _ _ _) (grownCap_le_maxLen _ _ _ _ h63) hB (.slice (some ⟨g, 0, none⟩) n cap)
     exact ⟨_, _, hr, hgr.1, hgr.2⟩
theorem push_any {P : Program} {w : World} {B : Nat} {t ty e : TypeId} {z : Value} {sz bytes n m c : Nat} {v : Value} {xs news : List Value} {A : Option Addr} (ht : P.underlying t = some (.slice e)) (hi : (P.info? e).map (fun i => (i.zero, i.size, i.bytes)) = some (some z, sz, bytes))
 (hzs : z.cells.size = sz) (hown : OwnL w B e sz v n xs) (hl : news.length = m * sz) (hnews : 0 < m → ∃ ad, A = some ad ∧ ∀ j u, news[j]? = some u → w.cell? (ad.add j) = some u) (h1 : ∀ u ∈ news, u.oneCell' = true) (hn : NoU news) (hzu : NoU z.cells.toList)
 (h63 : n + m ≤ maxLen) (hbytes : (n + m) * bytes ≤ 140737488355328) (hB : B ≤ w.heap.size) :
 ∃ v' w', (Builtin.append_ #[t, t] ty #[v, .slice A m c]).run P w = .ok v' w' ∧ OwnL w' B e sz v' (n + m) (xs ++ news) ∧ Soft B v w w' := by
 rcases Nat.eq_zero_or_pos m with rfl | hm
 · have hn0 : news = [] := List.eq_nil_of_length_eq_zero (by simpa using hl)
   subst hn0
   cases A with
   | some ad => exact push_run ht hi hzs hown hl (fun j u hu => by simp at hu) h1 hn hzu h63 hbytes hB
   | none =>
    obtain ⟨i, hi0, hz, hs, hby⟩ := info_parts hi
    refine ⟨v, w, ?_, by simpa using hown, ⟨Below.refl _ _, KeepU.refl _, fun _ _ _ => rfl⟩⟩
    rcases hown.2 with ⟨rfl, rfl⟩ | ⟨g, cap, cur, rfl, _, _, hnc, _⟩
    · simp [Builtin.append_, run_underlying ht, sizeOf, typeInfo, hi0, Builtin.lenOf, Builtin.firstCells]
    · simp [Builtin.append_, run_underlying ht, sizeOf, typeInfo, hi0, Builtin.lenOf, Builtin.firstCells, hnc, storeCells]
 · obtain ⟨ad, rfl, hc⟩ := hnews hm
   exact push_run ht hi hzs hown hl hc h1 hn hzu h63 hbytes hB
theorem push_ {P : Program} {ops : Array Oper} {Q : Exit → Act → World → Prop} {oi : Oper} {N : Option Tmp} {a : Act} {w w' : World} {v' : Value} {K : Act → World → Prop} {s x : Operand} {t : TypeId} {v vx : Value} (hw : Region.wanted oi (yielded ops a.tmps) = true) (hN : oi.dst = N)
 (ho : oi.op = .call { callee := .builtin .append, args := #[s, x], argTypes := #[t, t] }) (hs : a.eval s = v) (hx : a.eval x = vx) (hr : (Builtin.append_ #[t, t] oi.type #[v, vx]).run P w = .ok v' w') (h : K (a.put N v') w') :
 if Region.wanted oi (yielded ops a.tmps) = true then Oper.wp P oi a w K Q else K (a.put N undef) w := by
 rw [if_pos hw]
 subst hN
 unfold Oper.wp execOp
 simp only [ho, resolve, invoke, builtin, Sem.run_bind, Sem.run_pure, Result.andThen_ok, List.map_toArray, List.map_cons, List.map_nil, hs, hx, hr]
 exact h
theorem goesV_ {P : Program} {ops : Array Oper} {Q : Exit → Act → World → Prop} {oi : Oper} {N : Option Tmp} {a : Act} {w : World} {K : Act → World → Prop} {f : FuncId} {fn : Func} {s : Operand} {os : Array Operand} {ts : Array TypeId} (hf : P.funcs[f]? = some fn) (hname : (fn.name == "runtime.NumGoroutine") = false) (hb : fn.body.isSome = true) (args : Array Value)
 (hw : Region.wanted oi (yielded ops a.tmps) = true) (hN : oi.dst = N) (hop : oi.op = .call { callee := .value s, args := os, argTypes := ts }) (hs : a.eval s = .func (.func f) #[] #[]) (hargs : os.map a.eval = args)
 (h : Calls P f args w fun e w' => ∃ v, e = .returned v ∧ K (a.put N v) w') : if Region.wanted oi (yielded ops a.tmps) = true then Oper.wp P oi a w K Q else K (a.put N undef) w := by
 refine Go.Proofs.YtidgpkccjcddgaaGreatDoorW.PrintLast.call_ f args hw hN ?_ h
 have he := Go.Proofs.YtidgpkccjcddgaaGreatDoorW.PrintLast.enters_ hf hname hb args w
 unfold execOp
 simp [hop, resolve, hs, Deferred.ofValue, invoke, hargs, he]
theorem pushL_ {P : Program} {ops : Array Oper} {rest : List Oper} {Q : Exit → Act → World → Prop} {oi : Oper} {a : Act} {w w' : World} {v' : Value} {s x : Operand} {t : TypeId} {v vx : Value} (hg : oi.guard = none)
 (ho : oi.op = .call { callee := .builtin .append, args := #[s, x], argTypes := #[t, t] }) (hs : a.eval s = v) (hx : a.eval x = vx) (hr : (Builtin.append_ #[t, t] oi.type #[v, vx]).run P w = .ok v' w') (h : wpList P ops Q rest (a.put oi.dst v') w') :
 wpList P ops Q (oi :: rest) a w := by
 refine wpList_plain hg fun K hK => ?_
 unfold Oper.wp execOp
 simp only [ho, resolve, invoke, builtin, Sem.run_bind, Sem.run_pure, Result.andThen_ok, List.map_toArray, List.map_cons, List.map_nil, hs, hx, hr]
 exact hK _ _ h
end Go.Proofs.YtidgpkccjcddgaaGreatDoor.F
