import Derived.Test.YtchdoignomidjaaQuo
/- Affine forms: plus (a sum, the second so many times), SameAffine where both are equal. -/
set_option linter.unusedVariables false
set_option linter.unusedSimpArgs false
namespace Go.Proofs.Ytchdoignomidjaa.F
open Go.RowKit Go.Shelf Go.Proofs.YtchdoignomidjaaW.PrintLast

/-- an affine form of the call's own is told -/
def ToldA (w : World) (l : Frm) (q : Rat) (e : Ending) (w' : World) : Prop := ∃ (E : Option Addr) (j : Nat) (A : Option Addr) (c : Nat) (B : Option Addr) (d : Nat), e = .returned (.agg #[.slice E l.length j, .bool (decide (q.num < 0)), .slice A (dg q.num.natAbs).length c, .slice B (dg q.den).length d]) ∧ OwnF w' w.heap.size (.slice E l.length j) l ∧ InQ w' A c B d q ∧ Below w.heap.size w w'
set_option maxHeartbeats 2000000 in
set_option maxRecDepth 100000 in
theorem linear_plus (A : Option Addr) (c : Nat) (f : List (Int × RatD)) (s1 : Bool) (A1 : Option Addr) (c1 : Nat) (x1 : List Int) (B1 : Option Addr) (d1 : Nat) (y1 : List Int) (s : Bool) (E : Option Addr) (j : Nat) (xs : List Int) (G : Option Addr) (k : Nat) (ys : List Int) (A2 : Option Addr) (c2 : Nat) (g : List (Int × RatD)) (s2 : Bool) (A3 : Option Addr) (c3 : Nat) (x2 : List Int) (B3 : Option Addr) (d3 : Nat) (y2 : List Int) (w : World)
    (hf : FRaw w A c f) (hg : FRaw w A2 c2 g) (h1 : In w A1 c1 x1) (m1 : x1.length ≤ 137438953471) (h2 : In w B1 d1 y1) (m2 : y1.length ≤ 137438953471) (h3 : In w E j xs) (m3 : xs.length ≤ 137438953471) (h4 : In w G k ys) (m4 : ys.length ≤ 137438953471) (h5 : In w A3 c3 x2) (m5 : x2.length ≤ 137438953471) (h6 : In w B3 d3 y2) (m6 : y2.length ≤ 137438953471)
    (hs : (f.map wtm).sum + (2 * mf (nform (smul (rv s xs ys) (fval g))) + 5 * g.length) ≤ 137438953470) (hq : QL (rv s xs ys * rv s2 x2 y2)) :
    Calls Try.prog 79 #[.agg #[.slice A f.length c, .bool s1, .slice A1 x1.length c1, .slice B1 y1.length d1], .agg #[.bool s, .slice E xs.length j, .slice G ys.length k], .agg #[.slice A2 g.length c2, .bool s2, .slice A3 x2.length c3, .slice B3 y2.length d3]] w (ToldA w (nform (fval f ++ smul (rv s xs ys) (fval g))) (rv s1 x1 y1 + rv s xs ys * rv s2 x2 y2)) := by
  have gl := nform_len (smul (rv s xs ys) (fval g))
  rw [smul_length, fval_length] at gl
  have gw := wtm_can (nform (smul (rv s xs ys) (fval g)))
  have hS := Lib.hid (fun (W : World) (hb : Below w.heap.size w W) => linear_Scale s E j xs G k ys A2 c2 g W (h3.below hb) (by omega) (h4.below hb) (by omega) (hg.below hb) fun v => by
    rw [← co_smul, ← co_nform]
    exact ql_of_mf (by omega) v)
  have hA := Lib.hid (show ∀ (W : World) (hb : Below w.heap.size w W) (E5 : Option Addr) (e5 : Nat), FIn W E5 e5 (nform (smul (rv s xs ys) (fval g))) → Calls Try.prog 27 #[.slice A f.length c, .slice E5 (nform (smul (rv s xs ys) (fval g))).length e5] W (ToldFm W (nform (fval f ++ smul (rv s xs ys) (fval g)))) from fun W hb E5 e5 q => by
    have e := linear_Add A c f E5 e5 _ W (hf.below hb) (q.raw (by omega)) (by omega)
    rw [List.length_map, fval_can, nform_app] at e
    exact e)
  have hM := Lib.hid (fun (W : World) (hb : Below w.heap.size w W) => ratio_Mul s E j xs G k ys s2 A3 c3 x2 B3 d3 y2 W (h3.below hb) (by omega) (h4.below hb) (by omega) (h5.below hb) (by omega) (h6.below hb) (by omega))
  have q1 := hq.1
  have q2 := hq.2
  have hP := Lib.hid (show ∀ (W : World) (hb : Below w.heap.size w W) (A7 : Option Addr) (c7 : Nat) (B7 : Option Addr) (d7 : Nat), InQ W A7 c7 B7 d7 (rv s xs ys * rv s2 x2 y2) → Calls Try.prog 60 #[.agg #[.bool s1, .slice A1 x1.length c1, .slice B1 y1.length d1], .agg #[.bool (decide ((rv s xs ys * rv s2 x2 y2).num < 0)), .slice A7 (dg (rv s xs ys * rv s2 x2 y2).num.natAbs).length c7, .slice B7 (dg (rv s xs ys * rv s2 x2 y2).den).length d7]] W (ToldQ W (rv s1 x1 y1 + rv s xs ys * rv s2 x2 y2)) from fun W hb A7 c7 B7 d7 q => by
    have e := ratio_Add s1 A1 c1 x1 B1 d1 y1 (decide ((rv s xs ys * rv s2 x2 y2).num < 0)) A7 c7 _ B7 d7 _ W (h1.below hb) (by omega) (h2.below hb) (by omega) q.num (by omega) q.den (by omega)
    rw [rv_can] at e
    exact e)
  clear hf hg h1 m1 h2 m2 h3 m3 h4 m4 h5 m5 h6 m6 hs hq gl gw q1 q2
  generalize nform (fval f ++ smul (rv s xs ys) (fval g)) = l at *
  generalize nform (smul (rv s xs ys) (fval g)) = n at *
  generalize rv s1 x1 y1 + rv s xs ys * rv s2 x2 y2 = r at *
  generalize rv s xs ys * rv s2 x2 y2 = p at *
  have HF := Lib.hid (((((Fr.refl w).box [.slice A f.length c, .bool s1, .slice A1 x1.length c1, .slice B1 y1.length d1] 60).box [.bool s, .slice E xs.length j, .slice G ys.length k] 31).box [.slice A2 g.length c2, .bool s2, .slice A3 x2.length c3, .slice B3 y2.length d3] 60).box [.slice none 0 0, .bool false, .slice none 0 0, .slice none 0 0] 60)
  have hsz : ∀ (w : World) (o : Obj), (w.alloc o).heap.size = w.heap.size + 1 := fun w o => by simp
  simp only [hsz, Nat.add_assoc, Nat.reduceAdd] at HF
  clear hsz
  go_enter Try.func79, Try.ntmps79
  go_wp2_with fail
  generalize World.alloc _ _ = W at HF ⊢
  have HF_ := Lib.hid HF.out.drew
  clear HF
  have HF := HF_
  clear HF_
  refine start_ (n := 16) (S := fun w' => w'.cell? ⟨w.heap.size, 0, none⟩ = some (.slice A f.length c) ∧ w'.cell? ⟨w.heap.size, 1, none⟩ = some (.bool s1) ∧ w'.cell? ⟨w.heap.size, 2, none⟩ = some (.slice A1 x1.length c1) ∧ w'.cell? ⟨w.heap.size, 3, none⟩ = some (.slice B1 y1.length d1) ∧ w'.cell? ⟨w.heap.size + 1, 0, none⟩ = some (.bool s) ∧ w'.cell? ⟨w.heap.size + 1, 1, none⟩ = some (.slice E xs.length j) ∧ w'.cell? ⟨w.heap.size + 1, 2, none⟩ = some (.slice G ys.length k) ∧ w'.cell? ⟨w.heap.size + 2, 0, none⟩ = some (.slice A2 g.length c2) ∧ w'.cell? ⟨w.heap.size + 2, 1, none⟩ = some (.bool s2) ∧ w'.cell? ⟨w.heap.size + 2, 2, none⟩ = some (.slice A3 x2.length c3) ∧ w'.cell? ⟨w.heap.size + 2, 3, none⟩ = some (.slice B3 y2.length d3)) (ds := []) #[false, false, false, false, false, false, false, false, false, false, false, false, false, false, false, false] (by kernel_rfl) rfl rfl ⟨HF.out.cellN 3 rfl 0 rfl, HF.out.cellN 3 rfl 1 rfl, HF.out.cellN 3 rfl 2 rfl, HF.out.cellN 3 rfl 3 rfl, HF.out.cellN 2 rfl 0 rfl, HF.out.cellN 2 rfl 1 rfl, HF.out.cellN 2 rfl 2 rfl, HF.out.cellN 1 rfl 0 rfl, HF.out.cellN 1 rfl 1 rfl, HF.out.cellN 1 rfl 2 rfl, HF.out.cellN 1 rfl 3 rfl⟩ (fun hHeld => ?_)
  generalize World.drew _ = W at *
  refine pure_ (i := 0) (N := (some 7)) (v := ?_) (a' := ?_) #[true, false, false, false, false, false, false, false, false, false, false, false, false, false, false, false] rfl rfl (by kernel_rfl) (fun _ _ _ h => h) (Or.inl ⟨by rfl, ?_⟩) ?_ ?_
  rotate_left
  · intro w'
    go_simp
    with_reducible rfl
  rotate_left
  · simp only [Act.put, List.setIfInBounds_toArray, List.set_cons_zero, List.set_cons_succ]
    rfl
  refine pure_ (i := 3) (N := (some 10)) (v := ?_) (a' := ?_) #[true, false, false, true, false, false, false, false, false, false, false, false, false, false, false, false] rfl rfl (by kernel_rfl) (fun _ _ _ h => h) (Or.inl ⟨by rfl, ?_⟩) ?_ ?_
  rotate_left
  · intro w'
    go_simp
    with_reducible rfl
  rotate_left
  · simp only [Act.put, List.setIfInBounds_toArray, List.set_cons_zero, List.set_cons_succ]
    rfl
  refine pure_ (i := 7) (N := (some 14)) (v := ?_) (a' := ?_) #[true, false, false, true, false, false, false, true, false, false, false, false, false, false, false, false] rfl rfl (by kernel_rfl) (fun _ _ _ h => h) (Or.inl ⟨by rfl, ?_⟩) ?_ ?_
  rotate_left
  · intro w'
    go_simp
    with_reducible rfl
  rotate_left
  · simp only [Act.put, List.setIfInBounds_toArray, List.set_cons_zero, List.set_cons_succ]
    rfl
  refine pure_ (i := 10) (N := (some 17)) (v := ?_) (a' := ?_) #[true, false, false, true, false, false, false, true, false, false, true, false, false, false, false, false] rfl rfl (by kernel_rfl) (fun _ _ _ h => h) (Or.inl ⟨by rfl, ?_⟩) ?_ ?_
  rotate_left
  · intro w'
    go_simp
    with_reducible rfl
  rotate_left
  · simp only [Act.put, List.setIfInBounds_toArray, List.set_cons_zero, List.set_cons_succ]
    rfl
  refine take_ (i := 1) (N := (some 8)) (v := ?_) (a' := ?_) #[true, true, false, true, false, false, false, true, false, false, true, false, false, false, false, false] rfl rfl (by kernel_rfl) (fun _ _ _ h => h) (Or.inl ⟨by rfl, ?_⟩) hHeld ?_ ?_
  rotate_left
  · rintro w' ⟨s0, s1, s2, s3, s4, s5, s6, s7, s8, s9, s10⟩
    go_simp
    with_reducible rfl
  rotate_left
  · simp only [Act.put, List.setIfInBounds_toArray, List.set_cons_zero, List.set_cons_succ]
    rfl
  refine take_ (i := 2) (N := (some 9)) (v := ?_) (a' := ?_) #[true, true, true, true, false, false, false, true, false, false, true, false, false, false, false, false] rfl rfl (by kernel_rfl) (fun _ _ _ h => h) (Or.inl ⟨by rfl, ?_⟩) hHeld ?_ ?_
  rotate_left
  · rintro w' ⟨s0, s1, s2, s3, s4, s5, s6, s7, s8, s9, s10⟩
    go_simp
    with_reducible rfl
  rotate_left
  · simp only [Act.put, List.setIfInBounds_toArray, List.set_cons_zero, List.set_cons_succ]
    rfl
  refine take_ (i := 4) (N := (some 11)) (v := ?_) (a' := ?_) #[true, true, true, true, true, false, false, true, false, false, true, false, false, false, false, false] rfl rfl (by kernel_rfl) (fun _ _ _ h => h) (Or.inl ⟨by rfl, ?_⟩) hHeld ?_ ?_
  rotate_left
  · rintro w' ⟨s0, s1, s2, s3, s4, s5, s6, s7, s8, s9, s10⟩
    go_simp
    with_reducible rfl
  rotate_left
  · simp only [Act.put, List.setIfInBounds_toArray, List.set_cons_zero, List.set_cons_succ]
    rfl
  refine take_ (i := 8) (N := (some 15)) (v := ?_) (a' := ?_) #[true, true, true, true, true, false, false, true, true, false, true, false, false, false, false, false] rfl rfl (by kernel_rfl) (fun _ _ _ h => h) (Or.inl ⟨by rfl, ?_⟩) hHeld ?_ ?_
  rotate_left
  · rintro w' ⟨s0, s1, s2, s3, s4, s5, s6, s7, s8, s9, s10⟩
    go_simp
    with_reducible rfl
  rotate_left
  · simp only [Act.put, List.setIfInBounds_toArray, List.set_cons_zero, List.set_cons_succ]
    rfl
  refine take_ (i := 9) (N := (some 16)) (v := ?_) (a' := ?_) #[true, true, true, true, true, false, false, true, true, true, true, false, false, false, false, false] rfl rfl (by kernel_rfl) (fun _ _ _ h => h) (Or.inl ⟨by rfl, ?_⟩) hHeld ?_ ?_
  rotate_left
  · rintro w' ⟨s0, s1, s2, s3, s4, s5, s6, s7, s8, s9, s10⟩
    go_simp
    with_reducible rfl
  rotate_left
  · simp only [Act.put, List.setIfInBounds_toArray, List.set_cons_zero, List.set_cons_succ]
    rfl
  refine take_ (i := 11) (N := (some 18)) (v := ?_) (a' := ?_) #[true, true, true, true, true, false, false, true, true, true, true, true, false, false, false, false] rfl rfl (by kernel_rfl) (fun _ _ _ h => h) (Or.inl ⟨by rfl, ?_⟩) hHeld ?_ ?_
  rotate_left
  · rintro w' ⟨s0, s1, s2, s3, s4, s5, s6, s7, s8, s9, s10⟩
    go_simp
    with_reducible rfl
  rotate_left
  · simp only [Act.put, List.setIfInBounds_toArray, List.set_cons_zero, List.set_cons_succ]
    rfl
  refine one_ (i := 5) (N := (some 12)) #[true, true, true, true, true, true, false, true, true, true, true, true, false, false, false, false] rfl rfl (by kernel_rfl) (by decide) (fun K hK => ?_)
  refine goes_ Try.func25 (by kernel_rfl) rfl #[.agg #[.bool s, .slice E xs.length j, .slice G ys.length k], .slice A2 g.length c2] (by rfl) rfl rfl (by (try simp only [List.map_toArray, List.map_cons, List.map_nil]); first | done | rfl) ?_
  refine (hS.out W HF.out.bel).mono ?_
  rintro e W1 ⟨v_, rfl, h1, h2⟩
  refine ⟨_, rfl, ?_⟩
  obtain ⟨E5, e5, rfl, h3⟩ := h1.fin
  have Q5 := Lib.hid h3
  replace HF := Lib.hid (HF.out.below h2)
  clear h1 h2 h3 hS
  refine hK.out _ _ ⟨HF.out.cellN 3 rfl 0 rfl, HF.out.cellN 3 rfl 1 rfl, HF.out.cellN 3 rfl 2 rfl, HF.out.cellN 3 rfl 3 rfl, HF.out.cellN 2 rfl 0 rfl, HF.out.cellN 2 rfl 1 rfl, HF.out.cellN 2 rfl 2 rfl, HF.out.cellN 1 rfl 0 rfl, HF.out.cellN 1 rfl 1 rfl, HF.out.cellN 1 rfl 2 rfl, HF.out.cellN 1 rfl 3 rfl⟩ (fun hHeld => ?_)
  clear hK K
  refine norm_ (a' := ?_) ?_ ?_
  rotate_left
  · show Act.put _ (some 12) _ = _
    simp only [Act.put, List.setIfInBounds_toArray, List.set_cons_zero, List.set_cons_succ]
    rfl
  refine one_ (i := 6) (N := (some 13)) #[true, true, true, true, true, true, true, true, true, true, true, true, false, false, false, false] rfl rfl (by kernel_rfl) (by decide) (fun K hK => ?_)
  refine goes_ Try.func27 (by kernel_rfl) rfl #[.slice A f.length c, .slice E5 n.length e5] (by rfl) rfl rfl (by (try simp only [List.map_toArray, List.map_cons, List.map_nil]); first | done | rfl) ?_
  refine (hA.out W1 HF.out.bel E5 e5 Q5.out).mono ?_
  rintro e W2 ⟨v_, rfl, h1, h2⟩
  refine ⟨_, rfl, ?_⟩
  obtain ⟨E6, e6, rfl, h3⟩ := h1.fin
  have HO := Lib.hid (h1.mono (by have := HF.out.ltN 0 rfl; omega : w.heap.size + 4 ≤ _))
  replace HF := Lib.hid (HF.out.below h2)
  clear h1 h2 h3 hA Q5
  refine hK.out _ _ ⟨HF.out.cellN 3 rfl 0 rfl, HF.out.cellN 3 rfl 1 rfl, HF.out.cellN 3 rfl 2 rfl, HF.out.cellN 3 rfl 3 rfl, HF.out.cellN 2 rfl 0 rfl, HF.out.cellN 2 rfl 1 rfl, HF.out.cellN 2 rfl 2 rfl, HF.out.cellN 1 rfl 0 rfl, HF.out.cellN 1 rfl 1 rfl, HF.out.cellN 1 rfl 2 rfl, HF.out.cellN 1 rfl 3 rfl⟩ (fun hHeld => ?_)
  clear hK K
  refine norm_ (a' := ?_) ?_ ?_
  rotate_left
  · show Act.put _ (some 13) _ = _
    simp only [Act.put, List.setIfInBounds_toArray, List.set_cons_zero, List.set_cons_succ]
    rfl
  refine one_ (i := 12) (N := (some 19)) #[true, true, true, true, true, true, true, true, true, true, true, true, true, false, false, false] rfl rfl (by kernel_rfl) (by decide) (fun K hK => ?_)
  refine goes_ Try.func61 (by kernel_rfl) rfl #[.agg #[.bool s, .slice E xs.length j, .slice G ys.length k], .agg #[.bool s2, .slice A3 x2.length c3, .slice B3 y2.length d3]] (by rfl) rfl rfl (by (try simp only [List.map_toArray, List.map_cons, List.map_nil]); first | done | rfl) ?_
  refine (hM.out W2 HF.out.bel).mono ?_
  rintro e W3 ⟨A7, c7, B7, d7, rfl, q1, q2, q3⟩
  refine ⟨_, rfl, ?_⟩
  replace HF := Lib.hid (HF.out.below q3)
  replace HO := Lib.hid (HO.out.below q3)
  have Q7 := Lib.hid (InQ.mk q1 q2)
  clear q1 q2 q3 hM
  refine hK.out _ _ ⟨HF.out.cellN 3 rfl 0 rfl, HF.out.cellN 3 rfl 1 rfl, HF.out.cellN 3 rfl 2 rfl, HF.out.cellN 3 rfl 3 rfl, HF.out.cellN 2 rfl 0 rfl, HF.out.cellN 2 rfl 1 rfl, HF.out.cellN 2 rfl 2 rfl, HF.out.cellN 1 rfl 0 rfl, HF.out.cellN 1 rfl 1 rfl, HF.out.cellN 1 rfl 2 rfl, HF.out.cellN 1 rfl 3 rfl⟩ (fun hHeld => ?_)
  clear hK K
  refine norm_ (a' := ?_) ?_ ?_
  rotate_left
  · show Act.put _ (some 19) _ = _
    simp only [Act.put, List.setIfInBounds_toArray, List.set_cons_zero, List.set_cons_succ]
    rfl
  refine one_ (i := 13) (N := (some 20)) #[true, true, true, true, true, true, true, true, true, true, true, true, true, true, false, false] rfl rfl (by kernel_rfl) (by decide) (fun K hK => ?_)
  refine goes_ Try.func60 (by kernel_rfl) rfl #[.agg #[.bool s1, .slice A1 x1.length c1, .slice B1 y1.length d1], .agg #[.bool (decide (p.num < 0)), .slice A7 (dg p.num.natAbs).length c7, .slice B7 (dg p.den).length d7]] (by rfl) rfl rfl (by (try simp only [List.map_toArray, List.map_cons, List.map_nil]); first | done | rfl) ?_
  refine (hP.out W3 HF.out.bel A7 c7 B7 d7 Q7.out).mono ?_
  rintro e W4 ⟨A8, c8, B8, d8, rfl, q1, q2, q3⟩
  refine ⟨_, rfl, ?_⟩
  replace HF := Lib.hid (HF.out.below q3)
  replace HO := Lib.hid (HO.out.below q3)
  have Q8 := Lib.hid (InQ.mk q1 q2)
  clear q1 q2 q3 hP Q7
  refine hK.out _ _ ⟨HF.out.cellN 3 rfl 0 rfl, HF.out.cellN 3 rfl 1 rfl, HF.out.cellN 3 rfl 2 rfl, HF.out.cellN 3 rfl 3 rfl, HF.out.cellN 2 rfl 0 rfl, HF.out.cellN 2 rfl 1 rfl, HF.out.cellN 2 rfl 2 rfl, HF.out.cellN 1 rfl 0 rfl, HF.out.cellN 1 rfl 1 rfl, HF.out.cellN 1 rfl 2 rfl, HF.out.cellN 1 rfl 3 rfl⟩ (fun hHeld => ?_)
  clear hK K
  refine norm_ (a' := ?_) ?_ ?_
  rotate_left
  · show Act.put _ (some 20) _ = _
    simp only [Act.put, List.setIfInBounds_toArray, List.set_cons_zero, List.set_cons_succ]
    rfl
  refine pure_ (i := 14) (N := (some 21)) (v := ?_) (a' := ?_) #[true, true, true, true, true, true, true, true, true, true, true, true, true, true, true, false] rfl rfl (by kernel_rfl) (fun _ _ _ h => h) (Or.inl ⟨by rfl, ?_⟩) ?_ ?_
  rotate_left
  · intro w'
    go_simp
    with_reducible rfl
  rotate_left
  · simp only [Act.put, List.setIfInBounds_toArray, List.set_cons_zero, List.set_cons_succ]
    rfl
  refine one_ (i := 15) (N := none) #[true, true, true, true, true, true, true, true, true, true, true, true, true, true, true, true] rfl rfl (by kernel_rfl) (by decide) (fun K hK => ?_)
  have hf0 := HF.out.frozenN 0 rfl 0
  have hf1 := HF.out.frozenN 0 rfl 1
  have hf2 := HF.out.frozenN 0 rfl 2
  have hf3 := HF.out.frozenN 0 rfl 3
  have hd0 := HF.out.cellN 0 rfl 0 rfl
  have hd1 := HF.out.cellN 0 rfl 1 rfl
  have hd2 := HF.out.cellN 0 rfl 2 rfl
  have hd3 := HF.out.cellN 0 rfl 3 rfl
  refine skip_ (w1 := ?_) (by rfl) rfl ?_ ?_
  rotate_left
  · go_simp
    rfl
  have HKU := Lib.hid (KeepU.put4 (HF.out.ownN 0 rfl) (fun y hy => by simp at hy) (y1 := .slice E6 l.length e6) (y2 := .bool (decide (r.num < 0))) (y3 := .slice A8 (dg r.num.natAbs).length c8) (fun y hy => by simp at hy) (.slice B8 (dg r.den).length d8))
  replace Q8 := Lib.hid (Q8.out.keep HKU.out)
  replace HO := Lib.hid (HO.out.put4 (fun h => by have := (HO.out.block _ h).1; omega) _ _ _ _ HKU.out)
  replace HF := Lib.hid (HF.out.put4 0 rfl (by omega) (by simp <;> omega) (.slice E6 l.length e6) (.bool (decide (r.num < 0))) (.slice A8 (dg r.num.natAbs).length c8) (.slice B8 (dg r.den).length d8))
  clear HKU hf0 hf1 hf2 hf3 hd0 hd1 hd2 hd3
  refine hK.out _ _ ⟨HF.out.cellN 3 rfl 0 rfl, HF.out.cellN 3 rfl 1 rfl, HF.out.cellN 3 rfl 2 rfl, HF.out.cellN 3 rfl 3 rfl, HF.out.cellN 2 rfl 0 rfl, HF.out.cellN 2 rfl 1 rfl, HF.out.cellN 2 rfl 2 rfl, HF.out.cellN 1 rfl 0 rfl, HF.out.cellN 1 rfl 1 rfl, HF.out.cellN 1 rfl 2 rfl, HF.out.cellN 1 rfl 3 rfl⟩ (fun hHeld => ?_)
  clear hK K
  refine done_ (by kernel_rfl) ?_
  generalize World.setCell _ _ _ = W2 at HF Q8 HO ⊢
  go_wp2
  exact post_own (HF.out.ownN 0 rfl) rfl rfl rfl Try.underlying60 rfl (by kernel_rfl) ⟨_, _, _, _, _, _, rfl, HO.out.mono (by omega), Q8.out, HF.out.bel⟩

set_option maxHeartbeats 1000000 in
set_option maxRecDepth 100000 in
theorem same_Aff (l : Frm) (q : Rat) (E : Option Addr) (j : Nat) (A : Option Addr) (c : Nat) (B : Option Addr) (d : Nat) (E2 : Option Addr) (j2 : Nat) (A2 : Option Addr) (c2 : Nat) (B2 : Option Addr) (d2 : Nat) (w : World) (h1 : FIn w E j l) (h2 : InQ w A c B d q) (k1 : FIn w E2 j2 l) (k2 : InQ w A2 c2 B2 d2 q) (hl : l.length ≤ 1099511627776) (hm : (dg q.num.natAbs).length ≤ 1099511627776) (km : (dg q.den).length ≤ 1099511627776) :
    Calls Try.prog 35 #[.agg #[.slice E l.length j, .bool (decide (q.num < 0)), .slice A (dg q.num.natAbs).length c, .slice B (dg q.den).length d], .agg #[.slice E2 l.length j2, .bool (decide (q.num < 0)), .slice A2 (dg q.num.natAbs).length c2, .slice B2 (dg q.den).length d2]] w (Decides w true) := by
  have hF := Lib.hid (fun (W : World) (hb : Below w.heap.size w W) => same_FormB E j E2 j2 l l W (h1.below hb) (k1.below hb) hl hl)
  have hR := Lib.hid (fun (W : World) (hb : Below w.heap.size w W) => same_Rat q A c B d A2 c2 B2 d2 W (h2.below hb) (k2.below hb) hm km)
  rw [decide_eq_true (rfl : l = l)] at hF
  unfold qv at hR
  clear h1 h2 k1 k2 hl hm km
  have HF := Lib.hid (((Fr.refl w).box [.slice E l.length j, .bool (decide (q.num < 0)), .slice A (dg q.num.natAbs).length c, .slice B (dg q.den).length d] 60).box [.slice E2 l.length j2, .bool (decide (q.num < 0)), .slice A2 (dg q.num.natAbs).length c2, .slice B2 (dg q.den).length d2] 60)
  have hsz : ∀ (w : World) (o : Obj), (w.alloc o).heap.size = w.heap.size + 1 := fun w o => by simp
  simp only [hsz, Nat.add_assoc, Nat.reduceAdd] at HF
  clear hsz
  generalize decide (q.num < 0) = b at *
  generalize dg q.num.natAbs = xs at *
  generalize dg q.den = ys at *
  generalize l.length = n at *
  go_enter Try.func35, Try.ntmps35
  go_wp2_with fail
  refine (hF.out _ HF.out.bel).mono ?_
  rintro e W1 ⟨rfl, h2⟩
  replace HF := Lib.hid (HF.out.below h2)
  clear h2 hF
  have a0 := HF.out.cellN 1 rfl 1 rfl
  have a1 := HF.out.cellN 1 rfl 2 rfl
  have a2 := HF.out.cellN 1 rfl 3 rfl
  have b0 := HF.out.cellN 0 rfl 1 rfl
  have b1 := HF.out.cellN 0 rfl 2 rfl
  have b2 := HF.out.cellN 0 rfl 3 rfl
  go_wp2_with fail
  refine (hR.out _ HF.out.bel).mono ?_
  rintro e W2 ⟨rfl, h2⟩
  replace HF := Lib.hid (HF.out.below h2)
  clear h2 hR a0 a1 a2 b0 b1 b2
  go_wp2
  go_ret
  exact ⟨rfl, HF.out.bel⟩
end Go.Proofs.Ytchdoignomidjaa.F
/- Affine forms and weighted ones as they are handed in: how they lie, their types, their bulk; the plain sum of weighted ones. -/
set_option linter.unusedVariables false
set_option linter.unusedSimpArgs false
namespace Go.Proofs.Ytchdoignomidjaa.F
open Go.ChangeShapes Go.WideShapes Go.ChangeAt Go.RowKit Go.Shelf

abbrev AffD := List (Int × RatD) × RatD
abbrev WgtD := AffD × RatD
def kAff : Knd AffD := kMono.slice.pair kRat
def kWgt : Knd WgtD := kAff.pair kRat
theorem kAff_cells {w : World} {x : AffD} {cs : List Value} (h : kAff.C w x cs) : ∃ A c B d D e, cs = [.slice A x.1.length c, .bool x.2.1.1, .slice B x.2.1.2.length d, .slice D x.2.2.length e] ∧ x.1.length ≤ c ∧ kMono.Row w A x.1 ∧ LiesQ w x.2 B d D e := by
  obtain ⟨c1, c2, rfl, h1, h2⟩ := h
  obtain ⟨A, c, rfl, h4, h5, h6⟩ := h1
  obtain ⟨B, d, D, e, rfl, hq⟩ := kRat_cells h2
  exact ⟨A, c, B, d, D, e, rfl, h4, h6, hq⟩
theorem row_wgt {w : World} {A : Option Addr} {xs : List WgtD} (h : kWgt.Row w A xs) (i : Nat) (hi : i < xs.length) :
    ∃ ad A1 c1 B1 d1 D1 e1 B2 d2 D2 e2, A = some ad ∧ w.cell? (ad.add (i * 7)) = some (.slice A1 xs[i].1.1.length c1) ∧ w.cell? (nxt (ad.add (i * 7)) 1) = some (.bool xs[i].1.2.1.1) ∧ w.cell? (nxt (ad.add (i * 7)) 2) = some (.slice B1 xs[i].1.2.1.2.length d1) ∧ w.cell? (nxt (ad.add (i * 7)) 3) = some (.slice D1 xs[i].1.2.2.length e1)
      ∧ w.cell? (nxt (ad.add (i * 7)) 4) = some (.bool xs[i].2.1.1) ∧ w.cell? (nxt (ad.add (i * 7)) 5) = some (.slice B2 xs[i].2.1.2.length d2) ∧ w.cell? (nxt (ad.add (i * 7)) 6) = some (.slice D2 xs[i].2.2.length e2)
      ∧ xs[i].1.1.length ≤ c1 ∧ kMono.Row w A1 xs[i].1.1 ∧ LiesQ w xs[i].1.2 B1 d1 D1 e1 ∧ LiesQ w xs[i].2 B2 d2 D2 e2 := by
  obtain ⟨ad, cs, e, hC, hc⟩ := h i hi
  obtain ⟨c1, c2, rfl, h1, h2⟩ := hC
  obtain ⟨A1, a1, B1, d1, D1, e1, rfl, hl, hr, hq1⟩ := kAff_cells h1
  obtain ⟨B2, d2, D2, e2, rfl, hq2⟩ := kRat_cells h2
  refine ⟨ad, A1, a1, B1, d1, D1, e1, B2, d2, D2, e2, e, hc 0 _ rfl, ?_, ?_, ?_, ?_, ?_, ?_, hl, hr, hq1, hq2⟩ <;> rw [add_off _ _ _ (by omega)]
  · exact hc 1 _ rfl
  · exact hc 2 _ rfl
  · exact hc 3 _ rfl
  · exact hc 4 _ rfl
  · exact hc 5 _ rfl
  · exact hc 6 _ rfl

abbrev okAff := okPair okForm okRat
abbrev okWgt := okPair okAff okRat
theorem opens_Affine : Opens Try.prog 60 kAff okAff := opens_pair Try.underlying60 (by kernel_rfl) rfl rfl (by kernel_rfl) (by kernel_rfl) opens_Form opens_Rat
theorem opens_Weighted : Opens Try.prog 98 kWgt okWgt := opens_pair Try.underlying98 (by kernel_rfl) rfl rfl (by kernel_rfl) (by kernel_rfl) opens_Affine opens_Rat
theorem opens_Weighteds : Opens Try.prog 57 kWgt.slice (okSlice okWgt) := opens_slice Try.underlying57 (by kernel_rfl) opens_Weighted

def wtA (x : AffD) : Nat := (x.1.map wtm).sum + 1 + wt x.2 + 1
def wtW (x : WgtD) : Nat := wtA x.1 + wt x.2 + 1
theorem wt_aff {H : Type} {x : AffD} {d : DataW H} (h : okAff x H d) : wtA x ≤ Rows.uptoBulk d := bulk_pair (g := fun f : List (Int × RatD) => (f.map wtm).sum + 1) (g' := wt) (fun x d h => wt_form h) (fun x d h => wt_rat h) h
theorem wt_wgt {H : Type} {x : WgtD} {d : DataW H} (h : okWgt x H d) : wtW x ≤ Rows.uptoBulk d := bulk_pair (g := wtA) (g' := wt) (fun x d h => wt_aff h) (fun x d h => wt_rat h) h
theorem wt_wgts {H : Type} {f : List WgtD} {d : DataW H} (h : okSlice okWgt f H d) : (f.map wtW).sum + 1 ≤ Rows.uptoBulk d := bulk_slice (fun x d h => wt_wgt h) h

/-- an affine form's numbers are numbers -/
structure GoodA (x : AffD) : Prop where
  form : ∀ m ∈ x.1, Good (wt m.2) m.2
  const : Good (wt x.2) x.2
theorem good_aff {H : Type} {x : AffD} {d : DataW H} (h : okAff x H d) : GoodA x := by
  obtain ⟨p, q, _, h1, h2⟩ := h
  exact ⟨good_form h1, good_rat h2⟩
structure GoodW (x : WgtD) : Prop where
  of : GoodA x.1
  coef : Good (wt x.2) x.2
theorem good_wgts {H : Type} {f : List WgtD} {d : DataW H} (h : okSlice okWgt f H d) : ∀ x ∈ f, GoodW x := fun x hx => (ok_mem h hx).elim fun d h => by
  obtain ⟨p, q, _, h1, h2⟩ := h
  exact ⟨good_aff h1, good_rat h2⟩

/-- all terms of weighted forms, so many times each -/
def cat : List WgtD → Frm
  | [] => []
  | x :: xs => smul (rq x.2) (fval x.1.1) ++ cat xs
theorem cat_append (xs ys : List WgtD) : cat (xs ++ ys) = cat xs ++ cat ys := by
  induction xs with
  | nil => rfl
  | cons x xs ih => show smul _ _ ++ cat (xs ++ ys) = (smul _ _ ++ cat xs) ++ cat ys; rw [ih, List.append_assoc]
theorem cat_succ (xs : List WgtD) (i : Nat) (h : i < xs.length) : cat (xs.take (i + 1)) = cat (xs.take i) ++ smul (rq xs[i].2) (fval xs[i].1.1) := by
  rw [List.take_succ_eq_append_getElem h, cat_append]
  show _ ++ (_ ++ []) = _
  rw [List.append_nil]
def cst (xs : List WgtD) : Rat := xs.foldl (fun s x => s + rq x.2 * rq x.1.2) 0
theorem cst_succ (xs : List WgtD) (i : Nat) (h : i < xs.length) : cst (xs.take (i + 1)) = cst (xs.take i) + rq xs[i].2 * rq xs[i].1.2 := by
  unfold cst
  rw [List.take_succ_eq_append_getElem h, List.foldl_append]
  rfl
theorem nform_apl (f g : Frm) : nform (nform f ++ g) = nform (f ++ g) := nform_congr fun v => by rw [co_append, co_nform, co_append]

def fl (xs : List WgtD) : Nat := (xs.map fun x => x.1.1.length).sum
def cw (xs : List WgtD) : Nat := (xs.map fun x => wt x.2).sum
theorem cat_mf (xs : List WgtD) (h : ∀ x ∈ xs, GoodW x) : mf (cat xs) ≤ (xs.map fun x => (x.1.1.map wtm).sum).sum + fl xs * cw xs := by
  induction xs with
  | nil => exact Nat.zero_le _
  | cons x xs ih =>
    have ih := ih fun y hy => h y (List.mem_cons_of_mem _ hy)
    have hx := h x (List.mem_cons_self ..)
    have h1 := mf_smul (rq x.2) (fval x.1.1)
    rw [fval_length] at h1
    have h2 := mf_fval hx.of.form
    have h3 : x.1.1.length * mu (rq x.2) ≤ x.1.1.length * wt x.2 := Nat.mul_le_mul_left _ (mu_rq hx.coef)
    show mf (smul (rq x.2) (fval x.1.1) ++ cat xs) ≤ ((x.1.1.map wtm).sum + (xs.map fun x => (x.1.1.map wtm).sum).sum) + (x.1.1.length + fl xs) * (wt x.2 + cw xs)
    rw [mf_append, Nat.add_mul, Nat.mul_add, Nat.mul_add]
    omega
theorem cat_length (xs : List WgtD) : (cat xs).length = fl xs := by
  induction xs with
  | nil => rfl
  | cons x xs ih => show (smul (rq x.2) (fval x.1.1) ++ cat xs).length = x.1.1.length + fl xs; rw [List.length_append, smul_length, fval_length, ih]
theorem sums (xs : List WgtD) : 7 * fl xs + cw xs + (xs.map fun x => wt x.1.2).sum ≤ (xs.map wtW).sum ∧ (xs.map fun x => (x.1.1.map wtm).sum).sum ≤ (xs.map wtW).sum := by
  induction xs with
  | nil => exact ⟨Nat.le_refl _, Nat.le_refl _⟩
  | cons x xs ih =>
    have h1 : x.1.1.length * 7 ≤ (x.1.1.map wtm).sum := len_le_sum x.1.1 fun m _ => wtm7 m
    simp only [fl, cw, List.map_cons, List.sum_cons, wtW, wtA] at ih ⊢
    exact ⟨by omega, by omega⟩
theorem mu_cst (xs : List WgtD) (h : ∀ x ∈ xs, GoodW x) : mu (cst xs) ≤ cw xs + (xs.map fun x => wt x.1.2).sum + 1 := by
  have key : ∀ (xs : List WgtD) (h : ∀ x ∈ xs, GoodW x) (s : Rat), mu (xs.foldl (fun s x => s + rq x.2 * rq x.1.2) s) ≤ mu s + (cw xs + (xs.map fun x => wt x.1.2).sum) := by
    intro xs
    induction xs with
    | nil => intro _ s; exact Nat.le_refl _
    | cons x xs ih =>
      intro h s
      have hx := h x (List.mem_cons_self ..)
      have h1 := ih (fun y hy => h y (List.mem_cons_of_mem _ hy)) (s + rq x.2 * rq x.1.2)
      have h2 := mu_add s (rq x.2 * rq x.1.2)
      have h3 := mu_mul (rq x.2) (rq x.1.2)
      have h4 := mu_rq hx.coef
      have h5 := mu_rq hx.of.const
      simp only [List.foldl_cons, cw, List.map_cons, List.sum_cons] at h1 ⊢
      omega
  have h1 := key xs h 0
  rw [mu_zero] at h1
  unfold cst
  omega
theorem wtW_take (xs : List WgtD) (i : Nat) : ((xs.take i).map wtW).sum ≤ (xs.map wtW).sum := by
  have h : (xs.map wtW).sum = ((xs.take i).map wtW).sum + ((xs.drop i).map wtW).sum := by rw [← List.sum_append, ← List.map_append, List.take_append_drop]
  omega
/-- what is known of the sum of weighted ones -/
theorem cat_small (xs : List WgtD) (h : ∀ x ∈ xs, GoodW x) (hb : (xs.map wtW).sum ≤ 1048576) : mf (cat xs) ≤ 39269320997 ∧ (cat xs).length ≤ 149797 ∧ mu (cst xs) ≤ 1048577 := by
  have h1 := cat_mf xs h
  have h2 := sums xs
  have h3 := mu_cst xs h
  have h4 := cat_length xs
  have h5 := prod_le2 (n := fl xs) (V := cw xs) (by omega)
  exact ⟨by omega, by omega, by omega⟩
end Go.Proofs.Ytchdoignomidjaa.F
