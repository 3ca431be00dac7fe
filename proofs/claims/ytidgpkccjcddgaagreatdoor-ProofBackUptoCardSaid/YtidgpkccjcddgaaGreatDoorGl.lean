/- How much forms weigh: a measure of rationals and of forms that sums and products keep. Plain law, and what it says of forms in memory. -/
import Derived.Test.YtidgpkccjcddgaaGreatDoorGk
import Derived.Test.YtidgpkccjcddgaaGreatDoorGi
set_option linter.unusedVariables false
set_option linter.unusedSimpArgs false
namespace Go.Proofs.YtidgpkccjcddgaaGreatDoor.F
open Go.RowKit Go.Shelf
def mu (q : Rat) : Nat := (dg (q.num.natAbs + q.den)).length
theorem mu_le {q : Rat} {b : Nat} : mu q ≤ b ↔ Sz b q := by
 unfold mu Sz
 constructor
 · intro h
   have h1 := Int.lt_of_lt_of_le (dg_lt (q.num.natAbs + q.den)) (Bp_le h)
   omega
 · intro h
   exact dg_length_le (by omega)
theorem sz_mu (q : Rat) : Sz (mu q) q := mu_le.1 (Nat.le_refl _)
theorem mu_pos (q : Rat) : 1 ≤ mu q := by
 have h : dg (q.num.natAbs + q.den) ≠ [] := by
  rw [Ne, dg_eq_nil]
  have := q.den_pos
  omega
 exact List.length_pos_iff.2 h
theorem mu_add (p q : Rat) : mu (p + q) ≤ mu p + mu q := mu_le.2 ((sz_mu p).add (sz_mu q))
theorem mu_mul (p q : Rat) : mu (p * q) ≤ mu p + mu q := mu_le.2 ((sz_mu p).mul (sz_mu q))
theorem mu_zero : mu 0 = 1 := Nat.le_antisymm (mu_le.2 Sz.zero) (mu_pos 0)
theorem mu_rq {x : RatD} (h : Good (wt x) x) : mu (rq x) ≤ wt x := mu_le.2 (Sz.rq h)
theorem mu_int {n : Int} (h : n.natAbs ≤ 4294967294) : mu (n : Rat) ≤ 1 := mu_le.2 (by unfold Sz; show ((n : Rat).num.natAbs : Int) + ((n : Rat).den : Int) < Bp 1; rw [Rat.num_intCast, Rat.den_intCast]; show _ < (4294967296 : Int); omega)
theorem mu_ql {q : Rat} (h : mu q ≤ 137438953472) : QL q := Sz.ql (mu_le.1 h)
theorem mu_len (q : Rat) : (dg q.num.natAbs).length ≤ mu q ∧ (dg q.den).length ≤ mu q := (sz_mu q).len
def mf (l : Frm) : Nat := (l.map fun m => mu m.2 + 1).sum
theorem mf_cons (m : Int × Rat) (l : Frm) : mf (m :: l) = mu m.2 + 1 + mf l := rfl
theorem mf_append (l m : Frm) : mf (l ++ m) = mf l + mf m := by unfold mf; rw [List.map_append, List.sum_append]
theorem mf_ins (v : Int) (q : Rat) (l : Frm) : mf (ins v q l) ≤ mu q + 1 + mf l := by
 induction l with
 | nil => simp only [ins]; split <;> simp [mf]
 | cons m r ih =>
  simp only [ins]
  split
  · split <;> simp only [mf_cons] <;> omega
  · split
    · split
      · simp only [mf_cons]; omega
      · have := mu_add q m.2; simp only [mf_cons]; omega
    · simp only [mf_cons]; omega
theorem mf_nform (l : Frm) : mf (nform l) ≤ mf l := by
 induction l with
 | nil => exact Nat.le_refl _
 | cons m r ih => have := mf_ins m.1 m.2 (nform r); simp only [nform, mf_cons]; omega
theorem mf_len (l : Frm) : l.length * 2 ≤ mf l := len_le_sum (g := fun m : Int × Rat => mu m.2 + 1) l fun m _ => by have := mu_pos m.2; omega
theorem smul_length (c : Rat) (l : Frm) : (smul c l).length = l.length := by unfold smul; simp
theorem nform_len (l : Frm) : (nform l).length ≤ l.length := nform_length l
theorem fval_length (f : List (Int × RatD)) : (fval f).length = f.length := by unfold fval; simp
theorem mf_fval {f : List (Int × RatD)} (h : ∀ m ∈ f, Good (wt m.2) m.2) : mf (fval f) ≤ (f.map wtm).sum := by
 induction f with
 | nil => exact Nat.le_refl _
 | cons m r ih =>
  have h1 := ih fun x hx => h x (List.mem_cons_of_mem _ hx)
  have h2 := mu_rq (h m (List.mem_cons_self ..))
  show mu (rq m.2) + 1 + mf (fval r) ≤ wtm m + (r.map wtm).sum
  unfold wtm at *
  omega
theorem wt_can (q : Rat) : wt (canD q) ≤ 2 * mu q + 5 := by
 have := mu_len q
 show (dg q.num.natAbs).length + (dg q.den).length + 5 ≤ _
 omega
theorem good_can (q : Rat) : Good (wt (canD q)) (canD q) := ⟨Lim_dg _, Lim_dg _, by unfold wt canD; simp; omega, by unfold wt canD; simp; omega⟩
theorem wtm_can (l : Frm) : ((l.map canM).map wtm).sum ≤ 2 * mf l + 5 * l.length := by
 induction l with
 | nil => exact Nat.le_refl _
 | cons m r ih =>
  simp only [List.map_cons, List.sum_cons, mf_cons, List.length_cons]
  have h1 := wt_can m.2
  have h2 : wtm (canM m) = wt (canD m.2) + 2 := rfl
  omega
theorem fval_can (l : Frm) : fval (l.map canM) = l := map_val_can l
theorem FIn.raw {w : World} {A : Option Addr} {c : Nat} {l : Frm} (h : FIn w A c l) (hs : 2 * mf l + 5 * l.length ≤ 137438953471) : FRaw w A c (l.map canM) :=
 ⟨h.row, by rw [List.length_map]; exact h.cap, fun m hm => by obtain ⟨x, _, rfl⟩ := List.mem_map.1 hm; exact good_can _, Nat.le_trans (wtm_can l) hs⟩
open Go.Proofs.YtidgpkccjcddgaaGreatDoorW.PrintLast
def OwnI (w : World) (B : Nat) (v : Value) (xs : List Int) : Prop := OwnL w B 3 1 v xs.length (xs.map (Value.int .i64))
theorem OwnI.nil (w : World) (B : Nat) : OwnI w B (.slice none 0 0) [] := OwnL.nil _ _ _ _
theorem OwnI.below {w w' : World} {B : Nat} {v : Value} {xs : List Int} (h : OwnI w B v xs) (hb : Below w.heap.size w w') : OwnI w' B v xs := OwnL.below h hb
theorem OwnI.mono {w : World} {B C : Nat} {v : Value} {xs : List Int} (h : OwnI w B v xs) (hC : C ≤ B) : OwnI w C v xs := OwnL.mono h hC
theorem row_i64 {w : World} {A : Option Addr} {xs : List Int} (hc : 0 < xs.length → ∃ ad, A = some ad ∧ ∀ j u, (xs.map (Value.int .i64))[j]? = some u → w.cell? (ad.add j) = some u) : (Knd.int .i64).Row w A xs := by
 intro i hi
 obtain ⟨ad, rfl, h⟩ := hc (by omega)
 refine ⟨ad, [.int .i64 xs[i]], rfl, rfl, fun j u hu => ?_⟩
 have hj : j = 0 := by
  cases j with
  | zero => rfl
  | succ j => simp at hu
 subst hj
 simp at hu
 subst hu
 have := h i (.int .i64 xs[i]) (by simp [List.getElem?_eq_getElem hi])
 rwa [show i * (Knd.int .i64).sz + 0 = i from by show i * 1 + 0 = i; omega]
theorem OwnI.row {w : World} {B : Nat} {v : Value} {xs : List Int} (h : OwnI w B v xs) : ∃ A c, v = .slice A xs.length c ∧ xs.length ≤ c ∧ (Knd.int .i64).Row w A xs := by
 obtain ⟨A, c, rfl, hc, _, h1⟩ := OwnL.form h
 exact ⟨A, c, rfl, hc, row_i64 h1⟩
theorem OwnI.blk {w : World} {B : Nat} {v : Value} {xs : List Int} (h : OwnI w B v xs) (h0 : 0 < xs.length) : ∃ g cap, v = .slice (some ⟨g, 0, none⟩) xs.length cap ∧ B ≤ g := by
 rcases h.2 with ⟨_, h1⟩ | ⟨g, cap, cur, rfl, h2, _⟩
 · omega
 · exact ⟨g, cap, rfl, h2⟩
theorem OwnI.set {w : World} {B g n cap : Nat} {xs : List Int} (h : OwnI w B (.slice (some ⟨g, 0, none⟩) n cap) xs) (hn : n = xs.length) (j : Nat) (hj : j < n) (y : Int) : OwnI (w.setCell ⟨g, j, none⟩ (.int .i64 y)) B (.slice (some ⟨g, 0, none⟩) n cap) (xs.set j y) := by
 subst hn
 have := (OwnL.setCell h j (by omega) (u := .int .i64 y) (fun z e => by cases e)).1
 unfold OwnI
 rw [List.length_set, List.map_set]
 exact this
theorem OwnI.cell {w : World} {B g n cap : Nat} {xs : List Int} (h : OwnI w B (.slice (some ⟨g, 0, none⟩) n cap) xs) (hn : n = xs.length) (j : Nat) (hj : j < xs.length) : w.cell? ⟨g, j, none⟩ = some (.int .i64 xs[j]) ∧ w.frozen? ⟨g, j, none⟩ = false := by
 subst hn
 obtain ⟨hB, cur, hg, hn, hm, hs, ht, hc⟩ := OwnL.block h
 refine ⟨?_, by simp [World.frozen?, hg]⟩
 have h1 : (xs.map (Value.int .i64))[j]? = some (.int .i64 xs[j]) := by simp [List.getElem?_eq_getElem hj]
 rw [← ht, List.getElem?_take] at h1
 split at h1
 · simp [World.cell?, hg]
   simpa using h1
 · cases h1
def vars (f : List (Int × RatD)) : List Int := f.map (·.1)
end Go.Proofs.YtidgpkccjcddgaaGreatDoor.F
