import Derived.Test.YtchdoignomidjaaNin
/- Measures of inverses and of forms less a variable; affine forms that are nothing are the same. -/
set_option linter.unusedVariables false
set_option linter.unusedSimpArgs false
namespace Go.Proofs.Ytchdoignomidjaa.F
open Go.RowKit Go.Shelf Go.Proofs.YtchdoignomidjaaW.PrintLast

theorem mu_split (f : List (Int × RatD)) (h : ∀ m ∈ f, Good (wt m.2) m.2) (v : Int) : mu (co (fval f) v) + ((fr v f).map wtm).sum ≤ (f.map wtm).sum + 1 := by
  induction f with
  | nil => show mu 0 + 0 ≤ 0 + 1; rw [mu_zero]; omega
  | cons m f ih =>
    have ih := ih fun y hy => h y (List.mem_cons_of_mem _ hy)
    have h1 := mu_rq (h m (List.mem_cons_self ..))
    have e : co (fval (m :: f)) v = (if m.1 = v then rq m.2 else 0) + co (fval f) v := rfl
    have h2 : wtm m = wt m.2 + 2 := rfl
    unfold fr at ih ⊢
    by_cases hv : m.1 = v
    · rw [List.filter_cons_of_neg (by simp [hv]), List.map_cons, List.sum_cons, e, if_pos hv]
      have h3 := mu_add (rq m.2) (co (fval f) v)
      omega
    · rw [List.filter_cons_of_pos (by simp [hv]), List.map_cons, List.map_cons, List.sum_cons, List.sum_cons, e, if_neg hv, Rat.zero_add]
      omega
theorem wout_Nf {l : Frm} (h : Nf l) (v : Int) : Nf (wout l v) := ⟨h.up.filter _, fun m hm => h.nz m (List.mem_filter.1 hm).1⟩
theorem wout_nform (F : Frm) (v : Int) : wout (nform F) v = nform (wout F v) := nform_eq (wout_Nf (nform_Nf F) v) fun u => co_wout_nform F v u
theorem wout_len (f : List (Int × RatD)) (v : Int) : (wout (nform (fval f)) v).length ≤ (fr v f).length := by
  rw [wout_nform, ← fval_fr]
  have := nform_len (fval (fr v f))
  rwa [fval_length] at this

set_option maxRecDepth 100000 in
theorem same_Rat_nil (w : World) : Calls Try.prog 16 #[.agg #[.bool false, .slice none 0 0, .slice none 0 0], .agg #[.bool false, .slice none 0 0, .slice none 0 0]] w (Decides w true) := by
  have hS := Lib.hid (fun (W : World) => same_Int false none 0 none 0 [] W (In.nil _ _ _) (In.nil _ _ _) (Nat.zero_le _))
  have hD := Lib.hid (fun (W : World) => same_Nat none 0 none 0 [] W (In.nil _ _ _) (In.nil _ _ _) (Nat.zero_le _))
  simp only [List.length_nil] at hS hD
  have HF := Lib.hid (((Fr.refl w).box [.bool false, .slice none 0 0, .slice none 0 0] 31).box [.bool false, .slice none 0 0, .slice none 0 0] 31)
  have hsz : ∀ (w : World) (o : Obj), (w.alloc o).heap.size = w.heap.size + 1 := fun w o => by simp
  simp only [hsz, Nat.add_assoc, Nat.reduceAdd] at HF
  clear hsz
  go_enter Try.func16, Try.ntmps16
  go_wp2_with fail
  refine (hS.out _).mono ?_
  rintro e W1 ⟨rfl, hb⟩
  replace HF := Lib.hid (HF.out.below hb)
  clear hb
  have hc0 := HF.out.cellN 1 rfl 2 rfl
  have hc1 := HF.out.cellN 0 rfl 2 rfl
  go_wp2_with fail
  refine (hD.out _).mono ?_
  rintro e W2 ⟨rfl, hb⟩
  replace HF := Lib.hid (HF.out.below hb)
  clear hb hc0 hc1
  go_wp2
  go_ret
  exact ⟨rfl, HF.out.bel⟩
set_option maxRecDepth 100000 in
theorem same_Aff_nil (w : World) : Calls Try.prog 35 #[.agg #[.slice none 0 0, .bool false, .slice none 0 0, .slice none 0 0], .agg #[.slice none 0 0, .bool false, .slice none 0 0, .slice none 0 0]] w (Decides w true) := by
  have hF := Lib.hid (fun (W : World) => same_FormB none 0 none 0 [] [] W (FIn.nil _ _ _) (FIn.nil _ _ _) (Nat.zero_le _) (Nat.zero_le _))
  simp only [List.length_nil, decide_true] at hF
  have hR := Lib.hid (fun (W : World) => same_Rat_nil W)
  have HF := Lib.hid (((Fr.refl w).box [.slice none 0 0, .bool false, .slice none 0 0, .slice none 0 0] 60).box [.slice none 0 0, .bool false, .slice none 0 0, .slice none 0 0] 60)
  have hsz : ∀ (w : World) (o : Obj), (w.alloc o).heap.size = w.heap.size + 1 := fun w o => by simp
  simp only [hsz, Nat.add_assoc, Nat.reduceAdd] at HF
  clear hsz
  go_enter Try.func35, Try.ntmps35
  go_wp2_with fail
  refine (hF.out _).mono ?_
  rintro e W1 ⟨rfl, h2⟩
  replace HF := Lib.hid (HF.out.below h2)
  clear h2 hF
  have a0 := HF.out.cellN 1 rfl 1 rfl
  have a1 := HF.out.cellN 1 rfl 2 rfl
  have a2 := HF.out.cellN 1 rfl 3 rfl
  have b0 := HF.out.cellN 0 rfl 1 rfl
  have b1 := HF.out.cellN 0 rfl 2 rfl
  have b2 := HF.out.cellN 0 rfl 3 rfl
  go_wp2_with fail
  refine (hR.out _).mono ?_
  rintro e W2 ⟨rfl, h2⟩
  replace HF := Lib.hid (HF.out.below h2)
  clear h2 hR a0 a1 a2 b0 b1 b2
  go_wp2
  go_ret
  exact ⟨rfl, HF.out.bel⟩

end Go.Proofs.Ytchdoignomidjaa.F
