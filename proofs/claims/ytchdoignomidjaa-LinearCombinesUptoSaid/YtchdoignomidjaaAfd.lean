import Derived.Test.YtchdoignomidjaaAff
/- Affine forms and weighted ones as they are handed in: how they lie, their types, their bulk; the plain sum of weighted ones. -/
set_option linter.unusedVariables false
set_option linter.unusedSimpArgs false
namespace Go.Proofs.Ytchdoignomidjaa.F
open Go.ChangeShapes Go.WideShapes Go.ChangeAt Go.RowKit Go.Shelf

abbrev AffD := List (Int × RatD) × RatD
abbrev WgtD := AffD × RatD
def kAff : Knd AffD := kMono.slice.pair kRat
def kWgt : Knd WgtD := kAff.pair kRat
theorem kAff_cells {w : World} {x : AffD} {cs : List Value} (h : kAff.C w x cs) : ∃ A c B d D e, cs = [.slice A x.1.length c, .bool x.2.1.1, .slice B x.2.1.2.length d, .slice D x.2.2.length e] ∧ x.1.length ≤ c ∧ kMono.Row w A x.1 ∧ LiesQ w x.2 B d D e := by
  obtain ⟨c1, c2, rfl, h1, h2⟩ := h
  obtain ⟨A, c, rfl, h4, h5, h6⟩ := h1
  obtain ⟨B, d, D, e, rfl, hq⟩ := kRat_cells h2
  exact ⟨A, c, B, d, D, e, rfl, h4, h6, hq⟩
theorem row_wgt {w : World} {A : Option Addr} {xs : List WgtD} (h : kWgt.Row w A xs) (i : Nat) (hi : i < xs.length) :
    ∃ ad A1 c1 B1 d1 D1 e1 B2 d2 D2 e2, A = some ad ∧ w.cell? (ad.add (i * 7)) = some (.slice A1 xs[i].1.1.length c1) ∧ w.cell? (nxt (ad.add (i * 7)) 1) = some (.bool xs[i].1.2.1.1) ∧ w.cell? (nxt (ad.add (i * 7)) 2) = some (.slice B1 xs[i].1.2.1.2.length d1) ∧ w.cell? (nxt (ad.add (i * 7)) 3) = some (.slice D1 xs[i].1.2.2.length e1)
      ∧ w.cell? (nxt (ad.add (i * 7)) 4) = some (.bool xs[i].2.1.1) ∧ w.cell? (nxt (ad.add (i * 7)) 5) = some (.slice B2 xs[i].2.1.2.length d2) ∧ w.cell? (nxt (ad.add (i * 7)) 6) = some (.slice D2 xs[i].2.2.length e2)
      ∧ xs[i].1.1.length ≤ c1 ∧ kMono.Row w A1 xs[i].1.1 ∧ LiesQ w xs[i].1.2 B1 d1 D1 e1 ∧ LiesQ w xs[i].2 B2 d2 D2 e2 := by
  obtain ⟨ad, cs, e, hC, hc⟩ := h i hi
  obtain ⟨c1, c2, rfl, h1, h2⟩ := hC
  obtain ⟨A1, a1, B1, d1, D1, e1, rfl, hl, hr, hq1⟩ := kAff_cells h1
  obtain ⟨B2, d2, D2, e2, rfl, hq2⟩ := kRat_cells h2
  refine ⟨ad, A1, a1, B1, d1, D1, e1, B2, d2, D2, e2, e, hc 0 _ rfl, ?_, ?_, ?_, ?_, ?_, ?_, hl, hr, hq1, hq2⟩ <;> rw [add_off _ _ _ (by omega)]
  · exact hc 1 _ rfl
  · exact hc 2 _ rfl
  · exact hc 3 _ rfl
  · exact hc 4 _ rfl
  · exact hc 5 _ rfl
  · exact hc 6 _ rfl

abbrev okAff := okPair okForm okRat
abbrev okWgt := okPair okAff okRat
theorem opens_Affine : Opens Try.prog 60 kAff okAff := opens_pair Try.underlying60 (by kernel_rfl) rfl rfl (by kernel_rfl) (by kernel_rfl) opens_Form opens_Rat
theorem opens_Weighted : Opens Try.prog 98 kWgt okWgt := opens_pair Try.underlying98 (by kernel_rfl) rfl rfl (by kernel_rfl) (by kernel_rfl) opens_Affine opens_Rat
theorem opens_Weighteds : Opens Try.prog 57 kWgt.slice (okSlice okWgt) := opens_slice Try.underlying57 (by kernel_rfl) opens_Weighted

def wtA (x : AffD) : Nat := (x.1.map wtm).sum + 1 + wt x.2 + 1
def wtW (x : WgtD) : Nat := wtA x.1 + wt x.2 + 1
theorem wt_aff {H : Type} {x : AffD} {d : DataW H} (h : okAff x H d) : wtA x ≤ Rows.uptoBulk d := bulk_pair (g := fun f : List (Int × RatD) => (f.map wtm).sum + 1) (g' := wt) (fun x d h => wt_form h) (fun x d h => wt_rat h) h
theorem wt_wgt {H : Type} {x : WgtD} {d : DataW H} (h : okWgt x H d) : wtW x ≤ Rows.uptoBulk d := bulk_pair (g := wtA) (g' := wt) (fun x d h => wt_aff h) (fun x d h => wt_rat h) h
theorem wt_wgts {H : Type} {f : List WgtD} {d : DataW H} (h : okSlice okWgt f H d) : (f.map wtW).sum + 1 ≤ Rows.uptoBulk d := bulk_slice (fun x d h => wt_wgt h) h

/-- an affine form's numbers are numbers -/
structure GoodA (x : AffD) : Prop where
  form : ∀ m ∈ x.1, Good (wt m.2) m.2
  const : Good (wt x.2) x.2
theorem good_form {H : Type} {f : List (Int × RatD)} {d : DataW H} (h : okForm f H d) : ∀ m ∈ f, Good (wt m.2) m.2 := fun m hm => (ok_mem h hm).elim fun d h => by
  obtain ⟨_, _, _, _, h⟩ := h
  exact good_rat h
theorem good_aff {H : Type} {x : AffD} {d : DataW H} (h : okAff x H d) : GoodA x := by
  obtain ⟨p, q, _, h1, h2⟩ := h
  exact ⟨good_form h1, good_rat h2⟩
structure GoodW (x : WgtD) : Prop where
  of : GoodA x.1
  coef : Good (wt x.2) x.2
theorem good_wgts {H : Type} {f : List WgtD} {d : DataW H} (h : okSlice okWgt f H d) : ∀ x ∈ f, GoodW x := fun x hx => (ok_mem h hx).elim fun d h => by
  obtain ⟨p, q, _, h1, h2⟩ := h
  exact ⟨good_aff h1, good_rat h2⟩

/-- all terms of weighted forms, so many times each -/
def cat : List WgtD → Frm
  | [] => []
  | x :: xs => smul (rq x.2) (fval x.1.1) ++ cat xs
theorem cat_append (xs ys : List WgtD) : cat (xs ++ ys) = cat xs ++ cat ys := by
  induction xs with
  | nil => rfl
  | cons x xs ih => show smul _ _ ++ cat (xs ++ ys) = (smul _ _ ++ cat xs) ++ cat ys; rw [ih, List.append_assoc]
theorem cat_succ (xs : List WgtD) (i : Nat) (h : i < xs.length) : cat (xs.take (i + 1)) = cat (xs.take i) ++ smul (rq xs[i].2) (fval xs[i].1.1) := by
  rw [List.take_succ_eq_append_getElem h, cat_append]
  show _ ++ (_ ++ []) = _
  rw [List.append_nil]
def cst (xs : List WgtD) : Rat := xs.foldl (fun s x => s + rq x.2 * rq x.1.2) 0
theorem cst_succ (xs : List WgtD) (i : Nat) (h : i < xs.length) : cst (xs.take (i + 1)) = cst (xs.take i) + rq xs[i].2 * rq xs[i].1.2 := by
  unfold cst
  rw [List.take_succ_eq_append_getElem h, List.foldl_append]
  rfl
theorem nform_apl (f g : Frm) : nform (nform f ++ g) = nform (f ++ g) := nform_congr fun v => by rw [co_append, co_nform, co_append]

def fl (xs : List WgtD) : Nat := (xs.map fun x => x.1.1.length).sum
def cw (xs : List WgtD) : Nat := (xs.map fun x => wt x.2).sum
theorem cat_mf (xs : List WgtD) (h : ∀ x ∈ xs, GoodW x) : mf (cat xs) ≤ (xs.map fun x => (x.1.1.map wtm).sum).sum + fl xs * cw xs := by
  induction xs with
  | nil => exact Nat.zero_le _
  | cons x xs ih =>
    have ih := ih fun y hy => h y (List.mem_cons_of_mem _ hy)
    have hx := h x (List.mem_cons_self ..)
    have h1 := mf_smul (rq x.2) (fval x.1.1)
    rw [fval_length] at h1
    have h2 := mf_fval hx.of.form
    have h3 : x.1.1.length * mu (rq x.2) ≤ x.1.1.length * wt x.2 := Nat.mul_le_mul_left _ (mu_rq hx.coef)
    show mf (smul (rq x.2) (fval x.1.1) ++ cat xs) ≤ ((x.1.1.map wtm).sum + (xs.map fun x => (x.1.1.map wtm).sum).sum) + (x.1.1.length + fl xs) * (wt x.2 + cw xs)
    rw [mf_append, Nat.add_mul, Nat.mul_add, Nat.mul_add]
    omega
theorem cat_length (xs : List WgtD) : (cat xs).length = fl xs := by
  induction xs with
  | nil => rfl
  | cons x xs ih => show (smul (rq x.2) (fval x.1.1) ++ cat xs).length = x.1.1.length + fl xs; rw [List.length_append, smul_length, fval_length, ih]
theorem sums (xs : List WgtD) : 7 * fl xs + cw xs + (xs.map fun x => wt x.1.2).sum ≤ (xs.map wtW).sum ∧ (xs.map fun x => (x.1.1.map wtm).sum).sum ≤ (xs.map wtW).sum := by
  induction xs with
  | nil => exact ⟨Nat.le_refl _, Nat.le_refl _⟩
  | cons x xs ih =>
    have h1 : x.1.1.length * 7 ≤ (x.1.1.map wtm).sum := len_le_sum x.1.1 fun m _ => wtm7 m
    simp only [fl, cw, List.map_cons, List.sum_cons, wtW, wtA] at ih ⊢
    exact ⟨by omega, by omega⟩
theorem mu_cst (xs : List WgtD) (h : ∀ x ∈ xs, GoodW x) : mu (cst xs) ≤ cw xs + (xs.map fun x => wt x.1.2).sum + 1 := by
  have key : ∀ (xs : List WgtD) (h : ∀ x ∈ xs, GoodW x) (s : Rat), mu (xs.foldl (fun s x => s + rq x.2 * rq x.1.2) s) ≤ mu s + (cw xs + (xs.map fun x => wt x.1.2).sum) := by
    intro xs
    induction xs with
    | nil => intro _ s; exact Nat.le_refl _
    | cons x xs ih =>
      intro h s
      have hx := h x (List.mem_cons_self ..)
      have h1 := ih (fun y hy => h y (List.mem_cons_of_mem _ hy)) (s + rq x.2 * rq x.1.2)
      have h2 := mu_add s (rq x.2 * rq x.1.2)
      have h3 := mu_mul (rq x.2) (rq x.1.2)
      have h4 := mu_rq hx.coef
      have h5 := mu_rq hx.of.const
      simp only [List.foldl_cons, cw, List.map_cons, List.sum_cons] at h1 ⊢
      omega
  have h1 := key xs h 0
  rw [mu_zero] at h1
  unfold cst
  omega
theorem wtW_take (xs : List WgtD) (i : Nat) : ((xs.take i).map wtW).sum ≤ (xs.map wtW).sum := by
  have h : (xs.map wtW).sum = ((xs.take i).map wtW).sum + ((xs.drop i).map wtW).sum := by rw [← List.sum_append, ← List.map_append, List.take_append_drop]
  omega
/-- what is known of the sum of weighted ones -/
theorem cat_small (xs : List WgtD) (h : ∀ x ∈ xs, GoodW x) (hb : (xs.map wtW).sum ≤ 1048576) : mf (cat xs) ≤ 39269320997 ∧ (cat xs).length ≤ 149797 ∧ mu (cst xs) ≤ 1048577 := by
  have h1 := cat_mf xs h
  have h2 := sums xs
  have h3 := mu_cst xs h
  have h4 := cat_length xs
  have h5 := prod_le2 (n := fl xs) (V := cw xs) (by omega)
  exact ⟨by omega, by omega, by omega⟩
end Go.Proofs.Ytchdoignomidjaa.F
